/-
  target.skip, Inside: what stands between brackets.
-/
import Derived.Test.YtmllkffdejojbaaDoorTitle
import Derived.Shelf.Strings.SlTrimAscii
namespace Go.Proofs.YtmllkffdejojbaaDoor
open Go.RowKit
set_option maxRecDepth 100000
set_option linter.unusedVariables false
set_option linter.unusedSimpArgs false

theorem trimWhite (s : ByteArray) (w : World) : Calls Tryd.prog 69 #[.string s, .string ⟨#[32, 9, 10]⟩] w fun e w' => e = .returned (.string ⟨(Lib.trimLeftS s.data.toList whites).toArray⟩) ∧ Below w.heap.size w w' :=
  Any.strings_TrimLeft_laid Tryd.lays161 (by kernel_rfl) s ⟨#[32, 9, 10]⟩ w (by decide) (ascii_of_all (by decide))

theorem skip_le (l : List UInt8) (n : Nat) (h : n ≤ l.length) : n ≤ skipW l n ∧ skipW l n ≤ l.length := by
  unfold skipW
  have : (Lib.trimLeftS (l.drop n) whites).length ≤ (l.drop n).length := (List.dropWhile_sublist _).length_le
  simp at this
  omega

theorem skip_any (s : ByteArray) (i : Int) (n : Nat) (hi : i = n) (w : World) (hz : s.size ≤ 1000000000) (hn : n ≤ s.size) :
    Calls Tryd.prog 46 #[.string s, .int .i64 i] w fun e w' => e = .returned (.int .i64 (skipW s.data.toList n)) ∧ Below w.heap.size w w' := by
  subst hi
  obtain ⟨S, hS⟩ : ∃ S : ByteArray, s.extract n s.size = S := ⟨_, rfl⟩
  have hSl : S.data.toList = s.data.toList.drop n := by rw [← hS, Lib.extract_to_end]
  have hc := trimWhite S
  rw [hSl] at hc
  have HL := Lib.hid (show (s.size : Int) - ((Lib.trimLeftS (s.data.toList.drop n) whites).length : Int) = (skipW s.data.toList n : Nat) by
    unfold skipW
    have : (Lib.trimLeftS (s.data.toList.drop n) whites).length ≤ (s.data.toList.drop n).length := (List.dropWhile_sublist _).length_le
    rw [Lib.size_eq]
    simp at this ⊢
    omega)
  have hll : (Lib.trimLeftS (s.data.toList.drop n) whites).length ≤ 1000000000 := by
    have : (Lib.trimLeftS (s.data.toList.drop n) whites).length ≤ (s.data.toList.drop n).length := (List.dropWhile_sublist _).length_le
    simp at this
    omega
  obtain ⟨t, ht⟩ : ∃ t, Lib.trimLeftS (s.data.toList.drop n) whites = t := ⟨_, rfl⟩
  rw [ht] at hc hll
  rw [ht] at HL
  have hts : (ByteArray.mk t.toArray).size = t.length := by rw [Lib.size_eq]
  have HC := Lib.hid hc
  clear hc hSl ht
  go_enter Tryd.func46, Tryd.ntmps46
  go_wp2_with fail
  refine (HC.out _).mono ?_
  rintro e w' ⟨rfl, hb⟩
  go_wp2_with fail
  go_ret
  exact ⟨ret_int (by first | exact HL.out | (rw [← HL.out]; simp)), hb⟩

theorem scan_lt (e : UInt8) (bad : UInt8 → Bool) : ∀ (f : Nat) (l : List UInt8) (i j : Nat), scanTo e bad f l i = some j → j < i + l.length := by
  intro f
  induction f with
  | zero => intro l i j h; cases h
  | succ f ih =>
    intro l i j h
    cases l with
    | nil => cases h
    | cons c l =>
      unfold scanTo at h
      split at h
      · split at h
        · cases h
        · cases l with
          | nil => rw [show ([] : List UInt8).drop 1 = [] from rfl] at h; cases f <;> cases h
          | cons d l => have := ih _ _ _ h; simp at this ⊢; omega
      · split at h
        · cases h; simp
        · split at h
          · cases h
          · have := ih _ _ _ h; simp at this ⊢; omega

theorem dgo_le : ∀ (f : Nat) (l : List UInt8) (o i : Nat), (destGo f l o i).2 ≤ i + l.length := by
  intro f
  induction f with
  | zero => intro l o i; simp [destGo]
  | succ f ih =>
    intro l o i
    cases l with
    | nil => simp [destGo]
    | cons c l =>
      unfold destGo
      split
      · simp
      · split
        · rename_i h
          cases l with
          | nil => simp at h
          | cons d l => have := ih l o (i + 2); simp at this ⊢; omega
        · split
          · have := ih l (o + 1) (i + 1); simp at this ⊢; omega
          · split
            · simp
            · split
              · have := ih l (o - 1) (i + 1); simp at this ⊢; omega
              · have := ih l o (i + 1); simp at this ⊢; omega

theorem dest_le (l : List UInt8) : (dest l).2.1 ≤ l.length := by
  unfold dest
  split
  · rename_i h
    unfold angled
    split
    · rename_i j hj
      have := scan_lt _ _ _ _ _ _ hj
      have h1 : 1 ≤ l.length := by cases l with | nil => simp at h | cons _ _ => simp
      simp at this ⊢
      omega
    · exact Nat.zero_le _
  · simp only
    split
    · exact Nat.zero_le _
    · have := dgo_le l.length l 0 0
      simp at this ⊢
      exact this

theorem title_le (l : List UInt8) : (title l).2.1 ≤ l.length := by
  cases l with
  | nil => exact Nat.zero_le _
  | cons c r =>
    by_cases hq : IsQuote c
    · rw [title_eq c r hq]
      split
      · rename_i j hj
        have := scan_lt _ _ _ _ _ _ hj
        simp at this ⊢
        omega
      · exact Nat.zero_le _
    · rw [title_other hq]
      exact Nat.zero_le _

theorem title_text {l : List UInt8} (h : (title l).2.2 = false) : (title l).1 = [] := by
  cases l with
  | nil => rfl
  | cons c r =>
    by_cases hq : IsQuote c
    · rw [title_eq c r hq] at h ⊢
      split at h
      · cases h
      · rfl
    · rw [title_other hq]

set_option maxHeartbeats 1600000 in
theorem inside_any (s : ByteArray) (w : World) (hE : Env w) (hz : s.size ≤ 1000000000) :
    Calls Tryd.prog 24 #[.string s] w fun e w' => e = .returned (.tuple #[.string ⟨(inside s.data.toList).1.toArray⟩, .string ⟨(inside s.data.toList).2.1.toArray⟩, .int .i64 (inside s.data.toList).2.2.1, .bool (inside s.data.toList).2.2.2]) ∧ Below w.heap.size w w' := by
  have hpre := Tryd.strings_HasPrefix s ⟨#[40]⟩
  rw [show (ByteArray.mk #[40]).data.toList = [40] from rfl, pre_one] at hpre
  have HE := Lib.hid hE
  clear hE
  by_cases h0 : s.data.toList.head? = some 40
  · rw [decide_eq_true h0] at hpre
    have HP := Lib.hid hpre
    have hsz1 : 1 ≤ s.size := by
      rw [Lib.size_eq]
      cases hl : s.data.toList with
      | nil => rw [hl] at h0; simp at h0
      | cons _ _ => simp
    obtain ⟨a, ha⟩ : ∃ a, skipW s.data.toList 1 = a := ⟨_, rfl⟩
    have hskA := skip_any s 1 1 rfl w hz hsz1
    have hle := skip_le s.data.toList 1 (by rw [← Lib.size_eq]; exact hsz1)
    rw [ha] at hskA hle
    rw [← Lib.size_eq] at hle
    obtain ⟨ha1, ha2⟩ := hle
    obtain ⟨D, hD⟩ : ∃ D, dest (s.data.toList.drop a) = D := ⟨_, rfl⟩
    obtain ⟨S, hS⟩ : ∃ S : ByteArray, s.extract a s.size = S := ⟨_, rfl⟩
    have hSl : S.data.toList = s.data.toList.drop a := by rw [← hS, Lib.extract_to_end]
    have hSz : S.size ≤ 1000000000 := by rw [Lib.size_eq, hSl]; simp; omega
    have hdest : ∀ W, Env W → Calls Tryd.prog 25 #[.string S] W _ := fun W hW => dest_any S W hW hSz
    rw [hSl, hD] at hdest
    have hdle := dest_le (s.data.toList.drop a)
    rw [hD] at hdle
    have hdle' : a + D.2.1 ≤ s.size := by simp at hdle; omega
    obtain ⟨b, hb⟩ : ∃ b, (if D.2.2 then skipW s.data.toList (a + D.2.1) else a) = b := ⟨_, rfl⟩
    obtain ⟨gap, hgap⟩ : ∃ g, (if D.2.2 then decide (a + D.2.1 < b) else decide (1 < a)) = g := ⟨_, rfl⟩
    have hb2 : b ≤ s.size := by
      rw [← hb]; split
      · rw [Lib.size_eq]; exact (skip_le _ _ (by rw [← Lib.size_eq]; exact hdle')).2
      · exact ha2
    obtain ⟨T, hT⟩ : ∃ T, (if gap then title (s.data.toList.drop b) else ([], 0, false)) = T := ⟨_, rfl⟩
    have htle : b + T.2.1 ≤ s.size := by
      rw [← hT]; split
      · have := title_le (s.data.toList.drop b); simp at this; omega
      · simpa using hb2
    obtain ⟨z, hzz⟩ : ∃ z, (if T.2.2 then skipW s.data.toList (b + T.2.1) else b) = z := ⟨_, rfl⟩
    have hz2 : z ≤ s.size := by
      rw [← hzz]; split
      · rw [Lib.size_eq]; exact (skip_le _ _ (by rw [← Lib.size_eq]; exact htle)).2
      · exact hb2
    have HIN := Lib.hid (show inside s.data.toList = if s.data.toList[z]? = some 41 then (D.1, T.1, z + 1, true) else ([], [], 0, false) by
      unfold inside
      rw [if_pos h0]
      simp only [ha, hD, hb, hgap, hT, hzz])
    have HSK := Lib.hid hskA
    have HDE := Lib.hid hdest
    have HB := Lib.hid hb
    have HG := Lib.hid hgap
    have HT := Lib.hid hT
    have HZ := Lib.hid hzz
    obtain ⟨S2, hS2⟩ : ∃ S2 : ByteArray, s.extract b s.size = S2 := ⟨_, rfl⟩
    have hSl2 : S2.data.toList = s.data.toList.drop b := by rw [← hS2, Lib.extract_to_end]
    have hSz2 : S2.size ≤ 1000000000 := by rw [Lib.size_eq, hSl2]; simp; omega
    have htit : ∀ W, Env W → Calls Tryd.prog 26 #[.string S2] W _ := fun W hW => title_any S2 W hW hSz2
    rw [hSl2] at htit
    have hskB : ∀ W, Calls Tryd.prog 46 #[.string s, .int .i64 ((a : Int) + (D.2.1 : Int))] W _ := fun W => skip_any s ((a : Int) + (D.2.1 : Int)) (a + D.2.1) (by omega) W hz hdle'
    have hskZ : ∀ W, Calls Tryd.prog 46 #[.string s, .int .i64 ((b : Int) + (T.2.1 : Int))] W _ := fun W => skip_any s ((b : Int) + (T.2.1 : Int)) (b + T.2.1) (by omega) W hz htle
    have HTI := Lib.hid htit
    have HSB := Lib.hid hskB
    have HSZ := Lib.hid hskZ
    obtain ⟨D1, D2, D3⟩ := D
    obtain ⟨T1, T2, T3⟩ := T
    clear hpre h0 ha hskA hD hSl hdest hdle hb hgap hT hzz hSl2 htit hskB hskZ
    simp only at htle hdle'
    have hend : (s.size : Int) ≤ (z : Int) ∧ inside s.data.toList = ([], [], 0, false) ∨ ∃ x, (∃ h : z < s.size, s[z] = x) ∧ (x.toNat = 41 ∧ inside s.data.toList = (D1, T1, z + 1, true) ∨ x.toNat ≠ 41 ∧ inside s.data.toList = ([], [], 0, false)) := by
      by_cases hzl : z < s.size
      · have hg := Lib.data_getElem? s z hzl
        refine Or.inr ⟨_, ⟨hzl, rfl⟩, ?_⟩
        by_cases hx41 : s[z].toNat = 41
        · exact Or.inl ⟨hx41, by rw [HIN.out, hg, byte_eq hx41]; rfl⟩
        · exact Or.inr ⟨hx41, by rw [HIN.out, hg, if_neg]; intro h; have h2 := Option.some.inj h; rw [h2] at hx41; exact hx41 rfl⟩
      · exact Or.inl ⟨by omega, by rw [HIN.out, if_neg]; rw [List.getElem?_eq_none (by simp; omega)]; simp⟩
    have HEND := Lib.hid hend
    clear hend
    cases D3
    · cases gap
      · cases T3
        · have hbb : b = a := by have := HB.out; exact this.symm
          subst hbb
          obtain rfl : S2 = S := by rw [← hS2, ← hS]
          clear hS2
          have hgg : ¬ (1 : Int) < (b : Int) := by have : decide (1 < b) = false := HG.out; have := of_decide_eq_false this; omega
          have hT0 : T1 = [] := congrArg Prod.fst (show (([], 0, false) : List UInt8 × Nat × Bool) = (T1, T2, false) from HT.out) |>.symm
          have HT1 := Lib.hid hT0
          clear hT0
          have hzb : b = z := HZ.out
          subst hzb
          rcases HEND.out with ⟨t1, hr⟩ | ⟨x, ⟨hzl, hx⟩, ⟨hx41, hr⟩ | ⟨hx41, hr⟩⟩
          · have HR := Lib.hid hr
            clear hr
            go_enter Tryd.func24, Tryd.ntmps24
            go_wp2_with fail
            refine (HP.out _).mono ?_
            rintro e w0 ⟨rfl, rfl⟩
            go_wp2_with fail
            refine (HSK.out).mono ?_
            rintro e w1 ⟨rfl, hb1⟩
            go_wp2_with fail
            refine (HDE.out _ (HE.out.below hb1)).mono ?_
            rintro e w2 ⟨rfl, hb2'⟩
            have hB2 := below_step hb1 hb2'
            go_wp2_with fail
            exact bodyPost_ret (v := .tuple #[.string ⟨#[]⟩, .string ⟨#[]⟩, .int .i64 0, .bool false]) (by simp [results, Tryd.results24, go_sem]) rfl ⟨ret_ssib HR.out rfl, hB2⟩
          · have t1 : ¬ (s.size : Int) ≤ (b : Int) := by omega
            have t2 : ((x.toNat : Int) != 41) = false := by simp; omega
            have HR := Lib.hid hr
            clear hr hx41
            go_enter Tryd.func24, Tryd.ntmps24
            go_wp2_with fail
            refine (HP.out _).mono ?_
            rintro e w0 ⟨rfl, rfl⟩
            go_wp2_with fail
            refine (HSK.out).mono ?_
            rintro e w1 ⟨rfl, hb1⟩
            go_wp2_with fail
            refine (HDE.out _ (HE.out.below hb1)).mono ?_
            rintro e w2 ⟨rfl, hb2'⟩
            have hB2 := below_step hb1 hb2'
            go_wp2_with fail
            exact bodyPost_ret (v := .tuple #[.string ⟨D1.toArray⟩, .string ⟨T1.toArray⟩, .int .i64 ((b : Int) + 1), .bool true]) (by simp [results, Tryd.results24, go_sem, HT1.out]) rfl ⟨ret_ssib (m := b + 1) HR.out (by simp), hB2⟩
          · have t1 : ¬ (s.size : Int) ≤ (b : Int) := by omega
            have t2 : ((x.toNat : Int) != 41) = true := by simp; omega
            have HR := Lib.hid hr
            clear hr hx41
            go_enter Tryd.func24, Tryd.ntmps24
            go_wp2_with fail
            refine (HP.out _).mono ?_
            rintro e w0 ⟨rfl, rfl⟩
            go_wp2_with fail
            refine (HSK.out).mono ?_
            rintro e w1 ⟨rfl, hb1⟩
            go_wp2_with fail
            refine (HDE.out _ (HE.out.below hb1)).mono ?_
            rintro e w2 ⟨rfl, hb2'⟩
            have hB2 := below_step hb1 hb2'
            go_wp2_with fail
            exact bodyPost_ret (v := .tuple #[.string ⟨#[]⟩, .string ⟨#[]⟩, .int .i64 0, .bool false]) (by simp [results, Tryd.results24, go_sem]) rfl ⟨ret_ssib HR.out rfl, hB2⟩
        · exact absurd (congrArg (fun p => p.2.2) (show (([], 0, false) : List UInt8 × Nat × Bool) = (T1, T2, true) from HT.out)) (by simp)
      · cases T3
        · have hbb : b = a := by have := HB.out; exact this.symm
          subst hbb
          obtain rfl : S2 = S := by rw [← hS2, ← hS]
          clear hS2
          have hgg : (1 : Int) < (b : Int) := by have : decide (1 < b) = true := HG.out; have := of_decide_eq_true this; omega
          have htt : title (s.data.toList.drop b) = (T1, T2, false) := HT.out
          have HTI2 := Lib.hid (show ∀ W, Env W → Calls Tryd.prog 26 #[.string S2] W fun e w' => e = .returned (.tuple #[.string ⟨T1.toArray⟩, .int .i64 T2, .bool false]) ∧ Below W.heap.size W w' from fun W hW => by have := HTI.out W hW; rw [htt] at this; exact this)
          have hzb : b = z := HZ.out
          subst hzb
          have HT1 := Lib.hid (show T1 = [] by have := title_text (l := s.data.toList.drop b) (by rw [htt]); rw [htt] at this; exact this)
          clear htt
          rcases HEND.out with ⟨t1, hr⟩ | ⟨x, ⟨hzl, hx⟩, ⟨hx41, hr⟩ | ⟨hx41, hr⟩⟩
          · have HR := Lib.hid hr
            clear hr
            go_enter Tryd.func24, Tryd.ntmps24
            go_wp2_with fail
            refine (HP.out _).mono ?_
            rintro e w0 ⟨rfl, rfl⟩
            go_wp2_with fail
            refine (HSK.out).mono ?_
            rintro e w1 ⟨rfl, hb1⟩
            go_wp2_with fail
            refine (HDE.out _ (HE.out.below hb1)).mono ?_
            rintro e w2 ⟨rfl, hb2'⟩
            have hB2 := below_step hb1 hb2'
            go_wp2_with fail
            refine (HTI2.out _ (HE.out.below hB2)).mono ?_
            rintro e w4 ⟨rfl, hb4⟩
            have hB4 := below_step hB2 hb4
            go_wp2_with fail
            exact bodyPost_ret (v := .tuple #[.string ⟨#[]⟩, .string ⟨#[]⟩, .int .i64 0, .bool false]) (by simp [results, Tryd.results24, go_sem]) rfl ⟨ret_ssib HR.out rfl, hB4⟩
          · have t1 : ¬ (s.size : Int) ≤ (b : Int) := by omega
            have t2 : ((x.toNat : Int) != 41) = false := by simp; omega
            have HR := Lib.hid hr
            clear hr hx41
            go_enter Tryd.func24, Tryd.ntmps24
            go_wp2_with fail
            refine (HP.out _).mono ?_
            rintro e w0 ⟨rfl, rfl⟩
            go_wp2_with fail
            refine (HSK.out).mono ?_
            rintro e w1 ⟨rfl, hb1⟩
            go_wp2_with fail
            refine (HDE.out _ (HE.out.below hb1)).mono ?_
            rintro e w2 ⟨rfl, hb2'⟩
            have hB2 := below_step hb1 hb2'
            go_wp2_with fail
            refine (HTI2.out _ (HE.out.below hB2)).mono ?_
            rintro e w4 ⟨rfl, hb4⟩
            have hB4 := below_step hB2 hb4
            go_wp2_with fail
            exact bodyPost_ret (v := .tuple #[.string ⟨D1.toArray⟩, .string ⟨T1.toArray⟩, .int .i64 ((b : Int) + 1), .bool true]) (by simp [results, Tryd.results24, go_sem, HT1.out]) rfl ⟨ret_ssib (m := b + 1) HR.out (by simp), hB4⟩
          · have t1 : ¬ (s.size : Int) ≤ (b : Int) := by omega
            have t2 : ((x.toNat : Int) != 41) = true := by simp; omega
            have HR := Lib.hid hr
            clear hr hx41
            go_enter Tryd.func24, Tryd.ntmps24
            go_wp2_with fail
            refine (HP.out _).mono ?_
            rintro e w0 ⟨rfl, rfl⟩
            go_wp2_with fail
            refine (HSK.out).mono ?_
            rintro e w1 ⟨rfl, hb1⟩
            go_wp2_with fail
            refine (HDE.out _ (HE.out.below hb1)).mono ?_
            rintro e w2 ⟨rfl, hb2'⟩
            have hB2 := below_step hb1 hb2'
            go_wp2_with fail
            refine (HTI2.out _ (HE.out.below hB2)).mono ?_
            rintro e w4 ⟨rfl, hb4⟩
            have hB4 := below_step hB2 hb4
            go_wp2_with fail
            exact bodyPost_ret (v := .tuple #[.string ⟨#[]⟩, .string ⟨#[]⟩, .int .i64 0, .bool false]) (by simp [results, Tryd.results24, go_sem]) rfl ⟨ret_ssib HR.out rfl, hB4⟩
        · have hbb : b = a := by have := HB.out; exact this.symm
          subst hbb
          obtain rfl : S2 = S := by rw [← hS2, ← hS]
          clear hS2
          have hgg : (1 : Int) < (b : Int) := by have : decide (1 < b) = true := HG.out; have := of_decide_eq_true this; omega
          have htt : title (s.data.toList.drop b) = (T1, T2, true) := HT.out
          have HTI2 := Lib.hid (show ∀ W, Env W → Calls Tryd.prog 26 #[.string S2] W fun e w' => e = .returned (.tuple #[.string ⟨T1.toArray⟩, .int .i64 T2, .bool true]) ∧ Below W.heap.size W w' from fun W hW => by have := HTI.out W hW; rw [htt] at this; exact this)
          have HSZ2 := Lib.hid (show ∀ W, Calls Tryd.prog 46 #[.string s, .int .i64 ((b : Int) + (T2 : Int))] W fun e w' => e = .returned (.int .i64 z) ∧ Below W.heap.size W w' from fun W => by have := HSZ.out W; rw [show skipW s.data.toList (b + T2) = z from HZ.out] at this; exact this)
          have HT1 : Hid ((1 : Nat) + 1 = 2) := Lib.hid rfl
          clear htt
          rcases HEND.out with ⟨t1, hr⟩ | ⟨x, ⟨hzl, hx⟩, ⟨hx41, hr⟩ | ⟨hx41, hr⟩⟩
          · have HR := Lib.hid hr
            clear hr
            go_enter Tryd.func24, Tryd.ntmps24
            go_wp2_with fail
            refine (HP.out _).mono ?_
            rintro e w0 ⟨rfl, rfl⟩
            go_wp2_with fail
            refine (HSK.out).mono ?_
            rintro e w1 ⟨rfl, hb1⟩
            go_wp2_with fail
            refine (HDE.out _ (HE.out.below hb1)).mono ?_
            rintro e w2 ⟨rfl, hb2'⟩
            have hB2 := below_step hb1 hb2'
            go_wp2_with fail
            refine (HTI2.out _ (HE.out.below hB2)).mono ?_
            rintro e w4 ⟨rfl, hb4⟩
            have hB4 := below_step hB2 hb4
            go_wp2_with fail
            refine (HSZ2.out _).mono ?_
            rintro e w5 ⟨rfl, hb5⟩
            have hB5 := below_step hB4 hb5
            go_wp2_with fail
            exact bodyPost_ret (v := .tuple #[.string ⟨#[]⟩, .string ⟨#[]⟩, .int .i64 0, .bool false]) (by simp [results, Tryd.results24, go_sem]) rfl ⟨ret_ssib HR.out rfl, hB5⟩
          · have t1 : ¬ (s.size : Int) ≤ (z : Int) := by omega
            have t2 : ((x.toNat : Int) != 41) = false := by simp; omega
            have HR := Lib.hid hr
            clear hr hx41
            go_enter Tryd.func24, Tryd.ntmps24
            go_wp2_with fail
            refine (HP.out _).mono ?_
            rintro e w0 ⟨rfl, rfl⟩
            go_wp2_with fail
            refine (HSK.out).mono ?_
            rintro e w1 ⟨rfl, hb1⟩
            go_wp2_with fail
            refine (HDE.out _ (HE.out.below hb1)).mono ?_
            rintro e w2 ⟨rfl, hb2'⟩
            have hB2 := below_step hb1 hb2'
            go_wp2_with fail
            refine (HTI2.out _ (HE.out.below hB2)).mono ?_
            rintro e w4 ⟨rfl, hb4⟩
            have hB4 := below_step hB2 hb4
            go_wp2_with fail
            refine (HSZ2.out _).mono ?_
            rintro e w5 ⟨rfl, hb5⟩
            have hB5 := below_step hB4 hb5
            go_wp2_with fail
            exact bodyPost_ret (v := .tuple #[.string ⟨D1.toArray⟩, .string ⟨T1.toArray⟩, .int .i64 ((z : Int) + 1), .bool true]) (by simp [results, Tryd.results24, go_sem, HT1.out]) rfl ⟨ret_ssib (m := z + 1) HR.out (by simp), hB5⟩
          · have t1 : ¬ (s.size : Int) ≤ (z : Int) := by omega
            have t2 : ((x.toNat : Int) != 41) = true := by simp; omega
            have HR := Lib.hid hr
            clear hr hx41
            go_enter Tryd.func24, Tryd.ntmps24
            go_wp2_with fail
            refine (HP.out _).mono ?_
            rintro e w0 ⟨rfl, rfl⟩
            go_wp2_with fail
            refine (HSK.out).mono ?_
            rintro e w1 ⟨rfl, hb1⟩
            go_wp2_with fail
            refine (HDE.out _ (HE.out.below hb1)).mono ?_
            rintro e w2 ⟨rfl, hb2'⟩
            have hB2 := below_step hb1 hb2'
            go_wp2_with fail
            refine (HTI2.out _ (HE.out.below hB2)).mono ?_
            rintro e w4 ⟨rfl, hb4⟩
            have hB4 := below_step hB2 hb4
            go_wp2_with fail
            refine (HSZ2.out _).mono ?_
            rintro e w5 ⟨rfl, hb5⟩
            have hB5 := below_step hB4 hb5
            go_wp2_with fail
            exact bodyPost_ret (v := .tuple #[.string ⟨#[]⟩, .string ⟨#[]⟩, .int .i64 0, .bool false]) (by simp [results, Tryd.results24, go_sem]) rfl ⟨ret_ssib HR.out rfl, hB5⟩
    · cases gap
      · cases T3
        · have HSB2 := Lib.hid (show ∀ W, Calls Tryd.prog 46 #[.string s, .int .i64 ((a : Int) + (D2 : Int))] W fun e w' => e = .returned (.int .i64 b) ∧ Below W.heap.size W w' from fun W => by have := HSB.out W; rw [show skipW s.data.toList (a + D2) = b from HB.out] at this; exact this)
          have hgg : ¬ (a : Int) + (D2 : Int) < (b : Int) := by have : decide (a + D2 < b) = false := HG.out; have := of_decide_eq_false this; omega
          have hT0 : T1 = [] := congrArg Prod.fst (show (([], 0, false) : List UInt8 × Nat × Bool) = (T1, T2, false) from HT.out) |>.symm
          have HT1 := Lib.hid hT0
          clear hT0
          have hzb : b = z := HZ.out
          subst hzb
          rcases HEND.out with ⟨t1, hr⟩ | ⟨x, ⟨hzl, hx⟩, ⟨hx41, hr⟩ | ⟨hx41, hr⟩⟩
          · have HR := Lib.hid hr
            clear hr
            go_enter Tryd.func24, Tryd.ntmps24
            go_wp2_with fail
            refine (HP.out _).mono ?_
            rintro e w0 ⟨rfl, rfl⟩
            go_wp2_with fail
            refine (HSK.out).mono ?_
            rintro e w1 ⟨rfl, hb1⟩
            go_wp2_with fail
            refine (HDE.out _ (HE.out.below hb1)).mono ?_
            rintro e w2 ⟨rfl, hb2'⟩
            have hB2 := below_step hb1 hb2'
            go_wp2_with fail
            refine (HSB2.out _).mono ?_
            rintro e w3 ⟨rfl, hb3⟩
            have hB3 := below_step hB2 hb3
            go_wp2_with fail
            exact bodyPost_ret (v := .tuple #[.string ⟨#[]⟩, .string ⟨#[]⟩, .int .i64 0, .bool false]) (by simp [results, Tryd.results24, go_sem]) rfl ⟨ret_ssib HR.out rfl, hB3⟩
          · have t1 : ¬ (s.size : Int) ≤ (b : Int) := by omega
            have t2 : ((x.toNat : Int) != 41) = false := by simp; omega
            have HR := Lib.hid hr
            clear hr hx41
            go_enter Tryd.func24, Tryd.ntmps24
            go_wp2_with fail
            refine (HP.out _).mono ?_
            rintro e w0 ⟨rfl, rfl⟩
            go_wp2_with fail
            refine (HSK.out).mono ?_
            rintro e w1 ⟨rfl, hb1⟩
            go_wp2_with fail
            refine (HDE.out _ (HE.out.below hb1)).mono ?_
            rintro e w2 ⟨rfl, hb2'⟩
            have hB2 := below_step hb1 hb2'
            go_wp2_with fail
            refine (HSB2.out _).mono ?_
            rintro e w3 ⟨rfl, hb3⟩
            have hB3 := below_step hB2 hb3
            go_wp2_with fail
            exact bodyPost_ret (v := .tuple #[.string ⟨D1.toArray⟩, .string ⟨T1.toArray⟩, .int .i64 ((b : Int) + 1), .bool true]) (by simp [results, Tryd.results24, go_sem, HT1.out]) rfl ⟨ret_ssib (m := b + 1) HR.out (by simp), hB3⟩
          · have t1 : ¬ (s.size : Int) ≤ (b : Int) := by omega
            have t2 : ((x.toNat : Int) != 41) = true := by simp; omega
            have HR := Lib.hid hr
            clear hr hx41
            go_enter Tryd.func24, Tryd.ntmps24
            go_wp2_with fail
            refine (HP.out _).mono ?_
            rintro e w0 ⟨rfl, rfl⟩
            go_wp2_with fail
            refine (HSK.out).mono ?_
            rintro e w1 ⟨rfl, hb1⟩
            go_wp2_with fail
            refine (HDE.out _ (HE.out.below hb1)).mono ?_
            rintro e w2 ⟨rfl, hb2'⟩
            have hB2 := below_step hb1 hb2'
            go_wp2_with fail
            refine (HSB2.out _).mono ?_
            rintro e w3 ⟨rfl, hb3⟩
            have hB3 := below_step hB2 hb3
            go_wp2_with fail
            exact bodyPost_ret (v := .tuple #[.string ⟨#[]⟩, .string ⟨#[]⟩, .int .i64 0, .bool false]) (by simp [results, Tryd.results24, go_sem]) rfl ⟨ret_ssib HR.out rfl, hB3⟩
        · exact absurd (congrArg (fun p => p.2.2) (show (([], 0, false) : List UInt8 × Nat × Bool) = (T1, T2, true) from HT.out)) (by simp)
      · cases T3
        · have HSB2 := Lib.hid (show ∀ W, Calls Tryd.prog 46 #[.string s, .int .i64 ((a : Int) + (D2 : Int))] W fun e w' => e = .returned (.int .i64 b) ∧ Below W.heap.size W w' from fun W => by have := HSB.out W; rw [show skipW s.data.toList (a + D2) = b from HB.out] at this; exact this)
          have hgg : (a : Int) + (D2 : Int) < (b : Int) := by have : decide (a + D2 < b) = true := HG.out; have := of_decide_eq_true this; omega
          have htt : title (s.data.toList.drop b) = (T1, T2, false) := HT.out
          have HTI2 := Lib.hid (show ∀ W, Env W → Calls Tryd.prog 26 #[.string S2] W fun e w' => e = .returned (.tuple #[.string ⟨T1.toArray⟩, .int .i64 T2, .bool false]) ∧ Below W.heap.size W w' from fun W hW => by have := HTI.out W hW; rw [htt] at this; exact this)
          have hzb : b = z := HZ.out
          subst hzb
          have HT1 := Lib.hid (show T1 = [] by have := title_text (l := s.data.toList.drop b) (by rw [htt]); rw [htt] at this; exact this)
          clear htt
          rcases HEND.out with ⟨t1, hr⟩ | ⟨x, ⟨hzl, hx⟩, ⟨hx41, hr⟩ | ⟨hx41, hr⟩⟩
          · have HR := Lib.hid hr
            clear hr
            go_enter Tryd.func24, Tryd.ntmps24
            go_wp2_with fail
            refine (HP.out _).mono ?_
            rintro e w0 ⟨rfl, rfl⟩
            go_wp2_with fail
            refine (HSK.out).mono ?_
            rintro e w1 ⟨rfl, hb1⟩
            go_wp2_with fail
            refine (HDE.out _ (HE.out.below hb1)).mono ?_
            rintro e w2 ⟨rfl, hb2'⟩
            have hB2 := below_step hb1 hb2'
            go_wp2_with fail
            refine (HSB2.out _).mono ?_
            rintro e w3 ⟨rfl, hb3⟩
            have hB3 := below_step hB2 hb3
            go_wp2_with fail
            refine (HTI2.out _ (HE.out.below hB3)).mono ?_
            rintro e w4 ⟨rfl, hb4⟩
            have hB4 := below_step hB3 hb4
            go_wp2_with fail
            exact bodyPost_ret (v := .tuple #[.string ⟨#[]⟩, .string ⟨#[]⟩, .int .i64 0, .bool false]) (by simp [results, Tryd.results24, go_sem]) rfl ⟨ret_ssib HR.out rfl, hB4⟩
          · have t1 : ¬ (s.size : Int) ≤ (b : Int) := by omega
            have t2 : ((x.toNat : Int) != 41) = false := by simp; omega
            have HR := Lib.hid hr
            clear hr hx41
            go_enter Tryd.func24, Tryd.ntmps24
            go_wp2_with fail
            refine (HP.out _).mono ?_
            rintro e w0 ⟨rfl, rfl⟩
            go_wp2_with fail
            refine (HSK.out).mono ?_
            rintro e w1 ⟨rfl, hb1⟩
            go_wp2_with fail
            refine (HDE.out _ (HE.out.below hb1)).mono ?_
            rintro e w2 ⟨rfl, hb2'⟩
            have hB2 := below_step hb1 hb2'
            go_wp2_with fail
            refine (HSB2.out _).mono ?_
            rintro e w3 ⟨rfl, hb3⟩
            have hB3 := below_step hB2 hb3
            go_wp2_with fail
            refine (HTI2.out _ (HE.out.below hB3)).mono ?_
            rintro e w4 ⟨rfl, hb4⟩
            have hB4 := below_step hB3 hb4
            go_wp2_with fail
            exact bodyPost_ret (v := .tuple #[.string ⟨D1.toArray⟩, .string ⟨T1.toArray⟩, .int .i64 ((b : Int) + 1), .bool true]) (by simp [results, Tryd.results24, go_sem, HT1.out]) rfl ⟨ret_ssib (m := b + 1) HR.out (by simp), hB4⟩
          · have t1 : ¬ (s.size : Int) ≤ (b : Int) := by omega
            have t2 : ((x.toNat : Int) != 41) = true := by simp; omega
            have HR := Lib.hid hr
            clear hr hx41
            go_enter Tryd.func24, Tryd.ntmps24
            go_wp2_with fail
            refine (HP.out _).mono ?_
            rintro e w0 ⟨rfl, rfl⟩
            go_wp2_with fail
            refine (HSK.out).mono ?_
            rintro e w1 ⟨rfl, hb1⟩
            go_wp2_with fail
            refine (HDE.out _ (HE.out.below hb1)).mono ?_
            rintro e w2 ⟨rfl, hb2'⟩
            have hB2 := below_step hb1 hb2'
            go_wp2_with fail
            refine (HSB2.out _).mono ?_
            rintro e w3 ⟨rfl, hb3⟩
            have hB3 := below_step hB2 hb3
            go_wp2_with fail
            refine (HTI2.out _ (HE.out.below hB3)).mono ?_
            rintro e w4 ⟨rfl, hb4⟩
            have hB4 := below_step hB3 hb4
            go_wp2_with fail
            exact bodyPost_ret (v := .tuple #[.string ⟨#[]⟩, .string ⟨#[]⟩, .int .i64 0, .bool false]) (by simp [results, Tryd.results24, go_sem]) rfl ⟨ret_ssib HR.out rfl, hB4⟩
        · have HSB2 := Lib.hid (show ∀ W, Calls Tryd.prog 46 #[.string s, .int .i64 ((a : Int) + (D2 : Int))] W fun e w' => e = .returned (.int .i64 b) ∧ Below W.heap.size W w' from fun W => by have := HSB.out W; rw [show skipW s.data.toList (a + D2) = b from HB.out] at this; exact this)
          have hgg : (a : Int) + (D2 : Int) < (b : Int) := by have : decide (a + D2 < b) = true := HG.out; have := of_decide_eq_true this; omega
          have htt : title (s.data.toList.drop b) = (T1, T2, true) := HT.out
          have HTI2 := Lib.hid (show ∀ W, Env W → Calls Tryd.prog 26 #[.string S2] W fun e w' => e = .returned (.tuple #[.string ⟨T1.toArray⟩, .int .i64 T2, .bool true]) ∧ Below W.heap.size W w' from fun W hW => by have := HTI.out W hW; rw [htt] at this; exact this)
          have HSZ2 := Lib.hid (show ∀ W, Calls Tryd.prog 46 #[.string s, .int .i64 ((b : Int) + (T2 : Int))] W fun e w' => e = .returned (.int .i64 z) ∧ Below W.heap.size W w' from fun W => by have := HSZ.out W; rw [show skipW s.data.toList (b + T2) = z from HZ.out] at this; exact this)
          have HT1 : Hid ((1 : Nat) + 1 = 2) := Lib.hid rfl
          clear htt
          rcases HEND.out with ⟨t1, hr⟩ | ⟨x, ⟨hzl, hx⟩, ⟨hx41, hr⟩ | ⟨hx41, hr⟩⟩
          · have HR := Lib.hid hr
            clear hr
            go_enter Tryd.func24, Tryd.ntmps24
            go_wp2_with fail
            refine (HP.out _).mono ?_
            rintro e w0 ⟨rfl, rfl⟩
            go_wp2_with fail
            refine (HSK.out).mono ?_
            rintro e w1 ⟨rfl, hb1⟩
            go_wp2_with fail
            refine (HDE.out _ (HE.out.below hb1)).mono ?_
            rintro e w2 ⟨rfl, hb2'⟩
            have hB2 := below_step hb1 hb2'
            go_wp2_with fail
            refine (HSB2.out _).mono ?_
            rintro e w3 ⟨rfl, hb3⟩
            have hB3 := below_step hB2 hb3
            go_wp2_with fail
            refine (HTI2.out _ (HE.out.below hB3)).mono ?_
            rintro e w4 ⟨rfl, hb4⟩
            have hB4 := below_step hB3 hb4
            go_wp2_with fail
            refine (HSZ2.out _).mono ?_
            rintro e w5 ⟨rfl, hb5⟩
            have hB5 := below_step hB4 hb5
            go_wp2_with fail
            exact bodyPost_ret (v := .tuple #[.string ⟨#[]⟩, .string ⟨#[]⟩, .int .i64 0, .bool false]) (by simp [results, Tryd.results24, go_sem]) rfl ⟨ret_ssib HR.out rfl, hB5⟩
          · have t1 : ¬ (s.size : Int) ≤ (z : Int) := by omega
            have t2 : ((x.toNat : Int) != 41) = false := by simp; omega
            have HR := Lib.hid hr
            clear hr hx41
            go_enter Tryd.func24, Tryd.ntmps24
            go_wp2_with fail
            refine (HP.out _).mono ?_
            rintro e w0 ⟨rfl, rfl⟩
            go_wp2_with fail
            refine (HSK.out).mono ?_
            rintro e w1 ⟨rfl, hb1⟩
            go_wp2_with fail
            refine (HDE.out _ (HE.out.below hb1)).mono ?_
            rintro e w2 ⟨rfl, hb2'⟩
            have hB2 := below_step hb1 hb2'
            go_wp2_with fail
            refine (HSB2.out _).mono ?_
            rintro e w3 ⟨rfl, hb3⟩
            have hB3 := below_step hB2 hb3
            go_wp2_with fail
            refine (HTI2.out _ (HE.out.below hB3)).mono ?_
            rintro e w4 ⟨rfl, hb4⟩
            have hB4 := below_step hB3 hb4
            go_wp2_with fail
            refine (HSZ2.out _).mono ?_
            rintro e w5 ⟨rfl, hb5⟩
            have hB5 := below_step hB4 hb5
            go_wp2_with fail
            exact bodyPost_ret (v := .tuple #[.string ⟨D1.toArray⟩, .string ⟨T1.toArray⟩, .int .i64 ((z : Int) + 1), .bool true]) (by simp [results, Tryd.results24, go_sem, HT1.out]) rfl ⟨ret_ssib (m := z + 1) HR.out (by simp), hB5⟩
          · have t1 : ¬ (s.size : Int) ≤ (z : Int) := by omega
            have t2 : ((x.toNat : Int) != 41) = true := by simp; omega
            have HR := Lib.hid hr
            clear hr hx41
            go_enter Tryd.func24, Tryd.ntmps24
            go_wp2_with fail
            refine (HP.out _).mono ?_
            rintro e w0 ⟨rfl, rfl⟩
            go_wp2_with fail
            refine (HSK.out).mono ?_
            rintro e w1 ⟨rfl, hb1⟩
            go_wp2_with fail
            refine (HDE.out _ (HE.out.below hb1)).mono ?_
            rintro e w2 ⟨rfl, hb2'⟩
            have hB2 := below_step hb1 hb2'
            go_wp2_with fail
            refine (HSB2.out _).mono ?_
            rintro e w3 ⟨rfl, hb3⟩
            have hB3 := below_step hB2 hb3
            go_wp2_with fail
            refine (HTI2.out _ (HE.out.below hB3)).mono ?_
            rintro e w4 ⟨rfl, hb4⟩
            have hB4 := below_step hB3 hb4
            go_wp2_with fail
            refine (HSZ2.out _).mono ?_
            rintro e w5 ⟨rfl, hb5⟩
            have hB5 := below_step hB4 hb5
            go_wp2_with fail
            exact bodyPost_ret (v := .tuple #[.string ⟨#[]⟩, .string ⟨#[]⟩, .int .i64 0, .bool false]) (by simp [results, Tryd.results24, go_sem]) rfl ⟨ret_ssib HR.out rfl, hB5⟩
  · rw [decide_eq_false h0] at hpre
    have HP := Lib.hid hpre
    have HN := Lib.hid (show inside s.data.toList = ([], [], 0, false) by unfold inside; rw [if_neg h0])
    clear hpre h0
    go_enter Tryd.func24, Tryd.ntmps24
    go_wp2_with fail
    refine (HP.out _).mono ?_
    rintro e w' ⟨rfl, rfl⟩
    go_wp2_with fail
    refine bodyPost_ret (v := .tuple #[.string ⟨#[]⟩, .string ⟨#[]⟩, .int .i64 0, .bool false]) (by simp [results, Tryd.results24, go_sem]) rfl ⟨ret_ssib HN.out rfl, Below.refl _ _⟩
end Go.Proofs.YtmllkffdejojbaaDoor
