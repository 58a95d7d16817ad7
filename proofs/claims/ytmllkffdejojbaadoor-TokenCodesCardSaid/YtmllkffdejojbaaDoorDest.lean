/-
  target.zero, angled, Dest: the target with which a text begins.
-/
import Derived.Test.YtmllkffdejojbaaDoorUnesc
import Derived.Deep.LoopGhost
namespace Go.Proofs.YtmllkffdejojbaaDoor
open Go.RowKit
set_option maxRecDepth 100000
set_option linter.unusedVariables false
set_option linter.unusedSimpArgs false

theorem zero_any (s : ByteArray) (i : Int) (n : Nat) (hn : i = n) (w : World) (hs : s.size ≤ 1000000000) :
    Calls Tryd.prog 49 #[.string s, .int .i64 i] w fun e w' => e = .returned (.bool (decide (s.data.toList[n]? = some 0))) ∧ w' = w := by
  subst hn
  by_cases h : n < s.size
  · obtain ⟨c, hc⟩ : ∃ c, s[n] = c := ⟨_, rfl⟩
    have hd : s.data.toList[n]? = some c := by rw [← hc]; exact Lib.data_getElem? s n h
    rw [hd]
    have HR := Lib.hid (show (some c = some 0) = ((c.toNat : Int) = 0) from propext (by
      constructor
      · intro h; cases h; rfl
      · intro h; congr 1; exact UInt8.toNat.inj (by simpa using h)))
    clear hd
    have h' : (n : Int) < (s.size : Int) := by omega
    go_enter Tryd.func49, Tryd.ntmps49
    go_wp2_with fail
    go_ret
    refine ⟨ret_bool ?_, rfl⟩
    rw [Bool.eq_iff_iff]; simp only [decide_eq_true_eq, beq_iff_eq]; rw [HR.out]
  · have hd : s.data.toList[n]? = none := by rw [List.getElem?_eq_none]; simp; omega
    rw [hd]
    have h' : ¬ (n : Int) < (s.size : Int) := by omega
    go_enter Tryd.func49, Tryd.ntmps49
    go_wp2_with fail
    go_ret
    exact ⟨rfl, rfl⟩

/-- The rest of a scan. -/
def ScanTo (s : ByteArray) (e : UInt8) (bad : UInt8 → Bool) (i : Nat) (R : Option Nat) : Prop := ∃ f, scanTo e bad f (s.data.toList.drop i) i = R ∧ s.size ≤ i + f

theorem scan_slash0 {s : ByteArray} {e : UInt8} {bad : UInt8 → Bool} {i : Nat} {R : Option Nat} (h : ScanTo s e bad i R) (hi : i < s.size) (hc : s[i] = 92) (hz : s.data.toList[i + 1]? = some 0) : R = none := by
  obtain ⟨f, h, hf⟩ := h
  obtain ⟨f, rfl⟩ : ∃ g, f = g + 1 := ⟨f - 1, by omega⟩
  rw [drop_at s i hi, hc] at h
  unfold scanTo at h
  rw [if_pos rfl, if_pos (by rw [List.head?_drop]; exact hz)] at h
  exact h.symm
theorem scan_slash1 {s : ByteArray} {e : UInt8} {bad : UInt8 → Bool} {i : Nat} {R : Option Nat} (h : ScanTo s e bad i R) (hi : i < s.size) (hc : s[i] = 92) (hz : s.data.toList[i + 1]? ≠ some 0) : ScanTo s e bad (i + 2) R := by
  obtain ⟨f, h, hf⟩ := h
  obtain ⟨f, rfl⟩ : ∃ g, f = g + 1 := ⟨f - 1, by omega⟩
  rw [drop_at s i hi, hc] at h
  unfold scanTo at h
  rw [if_pos rfl, if_neg (by rw [List.head?_drop]; exact hz), List.drop_drop] at h
  exact ⟨f, h, by omega⟩
theorem scan_hit0 {s : ByteArray} {e : UInt8} {bad : UInt8 → Bool} {i : Nat} {R : Option Nat} (h : ScanTo s e bad i R) (hi : i < s.size) (hc : s[i] = e) (he : e ≠ 92) : R = some i := by
  obtain ⟨f, h, hf⟩ := h
  obtain ⟨f, rfl⟩ : ∃ g, f = g + 1 := ⟨f - 1, by omega⟩
  rw [drop_at s i hi, hc] at h
  unfold scanTo at h
  rw [if_neg he, if_pos rfl] at h
  exact h.symm
theorem scan_bad0 {s : ByteArray} {e c : UInt8} {bad : UInt8 → Bool} {i : Nat} {R : Option Nat} (h : ScanTo s e bad i R) (hi : i < s.size) (hc : s[i] = c) (h92 : c ≠ 92) (he : c ≠ e) (hb : bad c = true ∨ c = 0) : R = none := by
  obtain ⟨f, h, hf⟩ := h
  obtain ⟨f, rfl⟩ : ∃ g, f = g + 1 := ⟨f - 1, by omega⟩
  rw [drop_at s i hi, hc] at h
  unfold scanTo at h
  rw [if_neg h92, if_neg he, if_pos hb] at h
  exact h.symm
theorem scan_next {s : ByteArray} {e c : UInt8} {bad : UInt8 → Bool} {i : Nat} {R : Option Nat} (h : ScanTo s e bad i R) (hi : i < s.size) (hc : s[i] = c) (h92 : c ≠ 92) (he : c ≠ e) (hb : ¬ (bad c = true ∨ c = 0)) : ScanTo s e bad (i + 1) R := by
  obtain ⟨f, h, hf⟩ := h
  obtain ⟨f, rfl⟩ : ∃ g, f = g + 1 := ⟨f - 1, by omega⟩
  rw [drop_at s i hi, hc] at h
  unfold scanTo at h
  rw [if_neg h92, if_neg he, if_neg hb] at h
  exact ⟨f, h, by omega⟩
theorem scan_end0 {s : ByteArray} {e : UInt8} {bad : UInt8 → Bool} {i : Nat} {R : Option Nat} (h : ScanTo s e bad i R) (hi : ¬ i < s.size) : R = none := by
  obtain ⟨f, h, hf⟩ := h
  rw [drop_end s i (by omega)] at h
  cases f <;> exact h.symm

def angBad (c : UInt8) : Bool := c == 60 || c == 10

theorem byte_ne {c : UInt8} {n : Nat} (hn : n < 256) (h : c.toNat ≠ n) : c ≠ UInt8.ofNat n := fun e => h (by rw [e, UInt8.toNat_ofNat']; omega)
theorem byte_eq {c : UInt8} {n : Nat} (h : c.toNat = n) : c = UInt8.ofNat n := by rw [← h]; simp

theorem angled_some {l : List UInt8} {i : Nat} (h : scanTo 62 angBad l.length (l.drop 1) 1 = some i) : angled l = (unesc (l.take i).tail, i + 1, true) := by
  unfold angled
  rw [show (fun c : UInt8 => c == 60 || c == 10) = angBad from rfl, h]
  simp only [List.drop_one]
theorem angled_none {l : List UInt8} (h : scanTo 62 angBad l.length (l.drop 1) 1 = none) : angled l = ([], 0, false) := by
  unfold angled
  rw [show (fun c : UInt8 => c == 60 || c == 10) = angBad from rfl, h]

theorem ext_list (s : ByteArray) (i : Nat) : (s.extract 1 i).data.toList = (s.data.toList.take i).tail := by
  rw [Lib.extract_data, ← List.drop_take, List.drop_one]

set_option maxHeartbeats 4000000 in
theorem angled_any (s : ByteArray) (w : World) (hE : Env w) (hz : s.size ≤ 1000000000) :
    Calls Tryd.prog 47 #[.string s] w fun e w' => e = .returned (.tuple #[.string ⟨(angled s.data.toList).1.toArray⟩, .int .i64 (angled s.data.toList).2.1, .bool (angled s.data.toList).2.2]) ∧ Below w.heap.size w w' := by
  obtain ⟨R, hR⟩ : ∃ R, scanTo 62 angBad s.data.toList.length (s.data.toList.drop 1) 1 = R := ⟨_, rfl⟩
  have h0 : ScanTo s 62 angBad 1 R := ⟨_, hR, by rw [Lib.size_eq]; omega⟩
  have HR := Lib.hid hR
  clear hR
  go_enter Tryd.func47, Tryd.ntmps47
  go_wp2_with fail
  go_loop [5] (fun u5 => ∃ i : Nat, 1 ≤ i ∧ i ≤ 1000000002 ∧ u5 = .int .i64 i ∧ ScanTo s 62 angBad i R) (fun u5 => s.size - (intOf u5).toNat)
  case atStart => exact ⟨1, by omega, by omega, rfl, h0⟩
  case round =>
    obtain ⟨i, hi1, hi2, rfl, hsc⟩ := hrel
    by_cases hlt : i < s.size
    · obtain ⟨c, hc⟩ : ∃ c, s[i] = c := ⟨_, rfl⟩
      have HSC := Lib.hid hsc
      have HC := Lib.hid hc
      clear hsc
      by_cases c1 : c.toNat = 92
      · have ht : ((c.toNat : Int) == 92) = true := by simp; omega
        have hc92 : c = 92 := byte_eq c1
        have hzC : ∀ W, Calls Tryd.prog 49 #[.string s, .int .i64 ((i : Int) + 1)] W fun e w' => e = .returned (.bool (decide (s.data.toList[i + 1]? = some 0))) ∧ w' = W := fun W => zero_any s _ (i + 1) (by omega) W hz
        by_cases hzz : s.data.toList[i + 1]? = some 0
        · rw [decide_eq_true hzz] at hzC
          have HZ := Lib.hid hzC
          have HN := Lib.hid (angled_none (by rw [HR.out]; exact scan_slash0 HSC.out hlt (by rw [HC.out, hc92]) hzz))
          clear hzC hzz c1 hc92
          go_wp2_with fail
          refine (HZ.out _).mono ?_
          rintro e w' ⟨rfl, rfl⟩
          go_wp2_with fail
          go_ret3
          exact ⟨ret_sib HN.out rfl, Below.refl _ _⟩
        · rw [decide_eq_false hzz] at hzC
          have HZ := Lib.hid hzC
          have HN := Lib.hid (scan_slash1 HSC.out hlt (by rw [HC.out, hc92]) hzz)
          clear hzC hzz c1 hc92
          go_wp2_with fail
          refine (HZ.out _).mono ?_
          rintro e w' ⟨rfl, rfl⟩
          go_wp2_with fail
          go_round
          case rel => exact ⟨i + 2, by omega, by omega, by go_num, HN.out⟩
          case measure => simp [intOf]; omega
      · have ht : ((c.toNat : Int) == 92) = false := by simp; omega
        have h92 : c ≠ 92 := byte_ne (n := 92) (by omega) c1
        clear c1
        by_cases c2 : c.toNat = 60
        · have ht2 : ((c.toNat : Int) == 60) = true := by simp; omega
          have HN := Lib.hid (angled_none (by rw [HR.out]; exact scan_bad0 HSC.out hlt HC.out h92 (by rw [byte_eq c2]; decide) (Or.inl (by rw [byte_eq c2]; decide))))
          clear c2 h92
          go_wp2_with fail
          go_ret3
          exact ⟨ret_sib HN.out rfl, Below.refl _ _⟩
        · have ht2 : ((c.toNat : Int) == 60) = false := by simp; omega
          have h60 : c ≠ 60 := byte_ne (n := 60) (by omega) c2
          clear c2
          by_cases c3 : c.toNat = 10
          · have ht3 : ((c.toNat : Int) == 10) = true := by simp; omega
            have HN := Lib.hid (angled_none (by rw [HR.out]; exact scan_bad0 HSC.out hlt HC.out h92 (by rw [byte_eq c3]; decide) (Or.inl (by rw [byte_eq c3]; decide))))
            clear c3 h92 h60
            go_wp2_with fail
            go_ret3
            exact ⟨ret_sib HN.out rfl, Below.refl _ _⟩
          · have ht3 : ((c.toNat : Int) == 10) = false := by simp; omega
            have h10 : c ≠ 10 := byte_ne (n := 10) (by omega) c3
            clear c3
            by_cases c4 : c.toNat = 62
            · have ht4 : ((c.toNat : Int) == 62) = true := by simp; omega
              have HN := Lib.hid (angled_some (by rw [HR.out]; exact scan_hit0 HSC.out hlt (by rw [HC.out, byte_eq c4]; rfl) (by decide)))
              clear c4 h92 h60 h10
              obtain ⟨S, hS⟩ : ∃ S : ByteArray, s.extract 1 i = S := ⟨_, rfl⟩
              have hSl : S.data.toList = (s.data.toList.take i).tail := by rw [← hS, ext_list]
              have hSz : S.size ≤ 1000000000 := by rw [Lib.size_eq, hSl]; simp; omega
              have hun := unesc_any S w hE hSz
              rw [hSl] at hun
              have HU := Lib.hid hun
              clear hun hSl
              go_wp2_with fail
              refine (HU.out).mono ?_
              rintro e w' ⟨rfl, hb⟩
              go_wp2_with fail
              go_ret3
              exact ⟨ret_sib (m := i + 1) HN.out (by simp), hb⟩
            · have ht4 : ((c.toNat : Int) == 62) = false := by simp; omega
              have h62 : c ≠ 62 := byte_ne (n := 62) (by omega) c4
              clear c4
              have hzC : ∀ W, Calls Tryd.prog 49 #[.string s, .int .i64 (i : Int)] W fun e w' => e = .returned (.bool (decide (s.data.toList[i]? = some 0))) ∧ w' = W := fun W => zero_any s _ i rfl W hz
              have hgi : s.data.toList[i]? = some c := by rw [← HC.out]; exact Lib.data_getElem? s i hlt
              rw [hgi] at hzC
              have hbad : angBad c = false := by unfold angBad; simp [h60, h10]
              by_cases c5 : c = 0
              · rw [decide_eq_true (congrArg some c5)] at hzC
                have HZ := Lib.hid hzC
                have HN := Lib.hid (angled_none (by rw [HR.out]; exact scan_bad0 HSC.out hlt HC.out h92 h62 (Or.inr c5)))
                clear hzC hgi hbad c5 h92 h60 h10 h62
                go_wp2_with fail
                refine (HZ.out _).mono ?_
                rintro e w' ⟨rfl, rfl⟩
                go_wp2_with fail
                go_ret3
                exact ⟨ret_sib HN.out rfl, Below.refl _ _⟩
              · rw [decide_eq_false (fun h => c5 (Option.some.inj h))] at hzC
                have HZ := Lib.hid hzC
                have HN := Lib.hid (scan_next HSC.out hlt HC.out h92 h62 (by rw [hbad]; simp [c5]))
                clear hzC hgi hbad c5 h92 h60 h10 h62
                go_wp2_with fail
                refine (HZ.out _).mono ?_
                rintro e w' ⟨rfl, rfl⟩
                go_wp2_with fail
                go_round
                case rel => exact ⟨i + 1, by omega, by omega, by go_num, HN.out⟩
                case measure => simp [intOf]; omega
    · have HN := Lib.hid (angled_none (by rw [HR.out]; exact scan_end0 hsc hlt))
      clear hsc
      go_wp2_with fail
      go_ret3
      exact ⟨ret_sib HN.out rfl, Below.refl _ _⟩

/-- The rest of a target's way. -/
def DGo (s : ByteArray) (o i : Nat) (R : Nat × Nat) : Prop := ∃ f, destGo f (s.data.toList.drop i) o i = R ∧ s.size ≤ i + f

theorem dgo_end {s : ByteArray} {o i : Nat} {R : Nat × Nat} (h : DGo s o i R) (hi : ¬ i < s.size) : R = (o, i) := by
  obtain ⟨f, h, hf⟩ := h
  rw [drop_end s i (by omega)] at h
  cases f <;> exact h.symm
theorem dgo_open {s : ByteArray} {o i : Nat} {R : Nat × Nat} {c : UInt8} (h : DGo s o i R) (hi : i < s.size) (hc : s[i] = c) : ∃ f, s.size ≤ (i + 1) + f ∧
    (if isWhite c = true then (o, i)
    else if c = 92 ∧ ((s.data.toList.drop (i + 1)).head?.map (fun d => !isWhite d)).getD false = true then destGo f (s.data.toList.drop (i + 2)) o (i + 2)
    else if c = 40 then destGo f (s.data.toList.drop (i + 1)) (o + 1) (i + 1)
    else if c = 41 ∧ o = 0 then (o, i)
    else if c = 41 then destGo f (s.data.toList.drop (i + 1)) (o - 1) (i + 1)
    else destGo f (s.data.toList.drop (i + 1)) o (i + 1)) = R := by
  obtain ⟨f, h, hf⟩ := h
  obtain ⟨f, rfl⟩ : ∃ g, f = g + 1 := ⟨f - 1, by omega⟩
  rw [drop_at s i hi, hc] at h
  unfold destGo at h
  rw [List.drop_drop] at h
  exact ⟨f, by omega, h⟩
theorem dgo_white {s : ByteArray} {o i : Nat} {R : Nat × Nat} {c : UInt8} (h : DGo s o i R) (hi : i < s.size) (hc : s[i] = c) (h1 : isWhite c = true) : R = (o, i) := by
  obtain ⟨f, _, h⟩ := dgo_open h hi hc
  rw [if_pos h1] at h
  exact h.symm
theorem dgo_slash {s : ByteArray} {o i : Nat} {R : Nat × Nat} {d : UInt8} (h : DGo s o i R) (hi : i < s.size) (hc : s[i] = 92) (hd : s.data.toList[i + 1]? = some d) (h1 : isWhite d = false) : DGo s o (i + 2) R := by
  obtain ⟨f, hf, h⟩ := dgo_open h hi hc
  rw [if_neg (by decide), if_pos ⟨rfl, by rw [List.head?_drop, hd]; simp [h1]⟩] at h
  exact ⟨f, h, by omega⟩
theorem dgo_one {s : ByteArray} {o i : Nat} {R : Nat × Nat} {c : UInt8} (h : DGo s o i R) (hi : i < s.size) (hc : s[i] = c) (h1 : isWhite c = false) (h2 : c = 92 → ∀ d, s.data.toList[i + 1]? = some d → isWhite d = true) :
    (c = 40 → DGo s (o + 1) (i + 1) R) ∧ (c = 41 → o = 0 → R = (o, i)) ∧ (c = 41 → o ≠ 0 → DGo s (o - 1) (i + 1) R) ∧ (c ≠ 40 → c ≠ 41 → DGo s o (i + 1) R) := by
  obtain ⟨f, hf, h⟩ := dgo_open h hi hc
  rw [if_neg (by rw [h1]; simp), if_neg (by
    rintro ⟨e, h3⟩
    rw [List.head?_drop] at h3
    cases hd : s.data.toList[i + 1]? with
    | none => rw [hd] at h3; simp at h3
    | some d => rw [hd] at h3; simp [h2 e d hd] at h3)] at h
  refine ⟨fun e => ?_, fun e e0 => ?_, fun e e0 => ?_, fun e e' => ?_⟩
  · rw [if_pos e] at h; exact ⟨f, h, by omega⟩
  · rw [if_neg (by rw [e]; decide), if_pos ⟨e, e0⟩] at h; exact h.symm
  · rw [if_neg (by rw [e]; decide), if_neg (fun h => e0 h.2), if_pos e] at h; exact ⟨f, h, by omega⟩
  · rw [if_neg e, if_neg (fun h => e' h.1), if_neg e'] at h; exact ⟨f, h, by omega⟩

theorem white_test (c : UInt8) : isWhite c = (decide ((c.toNat : Int) ≤ 32) || ((c.toNat : Int) == 127)) :=
  allB (p := fun c => isWhite c = (decide ((c.toNat : Int) ≤ 32) || ((c.toNat : Int) == 127))) (by unfold AllB; decide +kernel) c

theorem dest_eq (l : List UInt8) (o i : Nat) (h0 : l.head? ≠ some 60) (h : destGo l.length l 0 0 = (o, i)) : dest l = if i = 0 ∨ 0 < o then ([], 0, false) else (unesc (l.take i), i, true) := by
  unfold dest
  rw [if_neg h0, h]

theorem pre_one (l : List UInt8) (c : UInt8) : Lib.hasPrefix l [c] = decide (l.head? = some c) := by
  unfold Lib.hasPrefix
  cases l with
  | nil => simp [List.isPrefixOf]
  | cons d r => simp [List.isPrefixOf]; rw [Bool.eq_iff_iff]; simp; exact eq_comm

set_option maxHeartbeats 4000000 in
theorem dest_any (s : ByteArray) (w : World) (hE : Env w) (hz : s.size ≤ 1000000000) :
    Calls Tryd.prog 25 #[.string s] w fun e w' => e = .returned (.tuple #[.string ⟨(dest s.data.toList).1.toArray⟩, .int .i64 (dest s.data.toList).2.1, .bool (dest s.data.toList).2.2]) ∧ Below w.heap.size w w' := by
  have hpre := Tryd.strings_HasPrefix s ⟨#[60]⟩
  rw [show (ByteArray.mk #[60]).data.toList = [60] from rfl, pre_one] at hpre
  by_cases h0 : s.data.toList.head? = some 60
  · rw [decide_eq_true h0] at hpre
    have HP := Lib.hid hpre
    have HD := Lib.hid (show dest s.data.toList = angled s.data.toList by unfold dest; rw [if_pos h0])
    clear hpre h0
    go_enter Tryd.func25, Tryd.ntmps25
    go_wp2_with fail
    go_step3
    go_wp2_with fail
    refine (HP.out _).mono ?_
    rintro e w' ⟨rfl, rfl⟩
    go_wp2_with fail
    refine (angled_any s _ hE hz).mono ?_
    rintro e w' ⟨rfl, hb⟩
    go_wp2_with fail
    try rw [Exit.noGoto_ret]
    go_ret3
    exact ⟨by rw [HD.out]; rfl, hb⟩
  · rw [decide_eq_false h0] at hpre
    have HP := Lib.hid hpre
    obtain ⟨⟨O, I⟩, hR⟩ : ∃ R, destGo s.data.toList.length s.data.toList 0 0 = R := ⟨_, rfl⟩
    have hd0 : DGo s 0 0 (O, I) := ⟨_, by rw [List.drop_zero]; exact hR, by rw [Lib.size_eq]; omega⟩
    have HD := Lib.hid (dest_eq s.data.toList O I h0 hR)
    clear hpre h0 hR
    go_enter Tryd.func25, Tryd.ntmps25
    go_wp2_with fail
    go_step3
    go_wp2_with fail
    refine (HP.out _).mono ?_
    rintro e w' ⟨rfl, rfl⟩
    go_wp2_with fail
    go_step3
    go_upto_block 0 with (fail)
    go_cut [5, 6] (fun u5 u6 wc => u5 = .int .i64 O ∧ u6 = .int .i64 I ∧ I ≤ s.size ∧ wc = w')
    case first =>
      go_wp2_with fail
      go_loop [5, 6] (fun u5 u6 => ∃ o i : Nat, u5 = .int .i64 o ∧ u6 = .int .i64 i ∧ o ≤ i ∧ i ≤ s.size ∧ DGo s o i (O, I)) (fun _ u6 => s.size - (intOf u6).toNat)
      case atStart => exact ⟨0, 0, rfl, rfl, by omega, by omega, hd0⟩
      case round =>
        obtain ⟨o, i, rfl, rfl, hoi, hi9, hgo⟩ := hrel
        have HG := Lib.hid hgo
        clear hgo hd0
        by_cases hlt : i < s.size
        · obtain ⟨c, hc⟩ : ∃ c, s[i] = c := ⟨_, rfl⟩
          have HC := Lib.hid hc
          have hwt := white_test c
          cases hw : isWhite c
          · rw [hw] at hwt
            have t1 : ¬ (c.toNat : Int) ≤ 32 := by intro h; rw [decide_eq_true h] at hwt; cases hwt
            have t2 : ((c.toNat : Int) == 127) = false := by cases h : ((c.toNat : Int) == 127); rfl; rw [h] at hwt; simp at hwt
            have HW := Lib.hid hw
            clear hwt hw
            by_cases c1 : c.toNat = 92
            · have t3 : ((c.toNat : Int) == 92) = true := by simp; omega
              have t4 : ((c.toNat : Int) == 40) = false := by simp; omega
              have t5 : ((c.toNat : Int) == 41) = false := by simp; omega
              have hc92 : c = 92 := byte_eq c1
              have HC92 := Lib.hid hc92
              clear c1 hc92
              have one : (∀ d, s.data.toList[i + 1]? = some d → isWhite d = true) → DGo s o (i + 1) (O, I) := fun h =>
                (dgo_one HG.out hlt HC.out HW.out (fun _ => h)).2.2.2 (by rw [HC92.out]; decide) (by rw [HC92.out]; decide)
              have HONE := Lib.hid one
              clear one
              by_cases c2 : i + 1 < s.size
              · have hlt1 : (i : Int) + 1 < (s.size : Int) := by omega
                have hi1 : IntKind.i64.wrap ((i : Int) + 1) = ((i + 1 : Nat) : Int) := by rw [wrap_small _ (by omega) (by omega)]; omega
                obtain ⟨d, hd⟩ : ∃ d, s[i + 1] = d := ⟨_, rfl⟩
                have HD1 := Lib.hid (show s.data.toList[i + 1]? = some d by rw [← hd]; exact Lib.data_getElem? s (i + 1) c2)
                have hdt := white_test d
                cases hdw : isWhite d
                · rw [hdw] at hdt
                  have t6 : (32 : Int) < (d.toNat : Int) := by
                    apply Classical.byContradiction; intro h; rw [decide_eq_true (show (d.toNat : Int) ≤ 32 by omega)] at hdt; cases hdt
                  have t7 : ((d.toNat : Int) != 127) = true := by
                    cases h : ((d.toNat : Int) == 127)
                    · simp only [bne, h]; rfl
                    · rw [h] at hdt; simp at hdt
                  have HN := Lib.hid (dgo_slash HG.out hlt (by rw [HC.out, HC92.out]) HD1.out hdw)
                  clear hdt hdw
                  go_wp2_with fail
                  go_round
                  case rel => exact ⟨o, i + 2, by go_num, by go_num, by omega, by omega, HN.out⟩
                  case measure => simp [intOf]; omega
                · rw [hdw] at hdt
                  have HN := Lib.hid (HONE.out (fun d' h => by rw [HD1.out] at h; cases h; exact hdw))
                  clear hdw
                  by_cases t6 : (d.toNat : Int) ≤ 32
                  · have t6' : ¬ (32 : Int) < (d.toNat : Int) := by omega
                    clear hdt
                    go_wp2_with fail
                    go_round
                    case rel => exact ⟨o, i + 1, by go_num, by go_num, by omega, by omega, HN.out⟩
                    case measure => simp [intOf]; omega
                  · have t6' : (32 : Int) < (d.toNat : Int) := by omega
                    have t7 : ((d.toNat : Int) != 127) = false := by
                      rw [decide_eq_false t6] at hdt
                      simp only [bne]
                      rw [show ((d.toNat : Int) == 127) = true from hdt.symm]; rfl
                    clear hdt
                    go_wp2_with fail
                    go_round
                    case rel => exact ⟨o, i + 1, by go_num, by go_num, by omega, by omega, HN.out⟩
                    case measure => simp [intOf]; omega
              · have hlt1 : ¬ (i : Int) + 1 < (s.size : Int) := by omega
                have HN := Lib.hid (HONE.out (fun d h => by rw [List.getElem?_eq_none (by simp; omega)] at h; cases h))
                go_wp2_with fail
                go_round
                case rel => exact ⟨o, i + 1, by go_num, by go_num, by omega, by omega, HN.out⟩
                case measure => simp [intOf]; omega
            · have t3 : ((c.toNat : Int) == 92) = false := by simp; omega
              have one := dgo_one HG.out hlt HC.out HW.out (fun e => absurd (by rw [e]; rfl) c1)
              have HONE := Lib.hid one
              clear one c1
              by_cases c2 : c.toNat = 40
              · have t4 : ((c.toNat : Int) == 40) = true := by simp; omega
                have HN := Lib.hid (HONE.out.1 (byte_eq c2))
                clear c2
                go_wp2_with fail
                go_round
                case rel => exact ⟨o + 1, i + 1, by go_num, by go_num, by omega, by omega, HN.out⟩
                case measure => simp [intOf]; omega
              · have t4 : ((c.toNat : Int) == 40) = false := by simp; omega
                have h40 := Lib.hid (byte_ne (n := 40) (by omega) c2)
                clear c2
                by_cases c3 : c.toNat = 41
                · have t5 : ((c.toNat : Int) == 41) = true := by simp; omega
                  have HC41 := Lib.hid (byte_eq c3)
                  clear c3
                  by_cases c4 : o = 0
                  · have HE2 := Lib.hid (HONE.out.2.1 HC41.out c4)
                    have t6 : ((o : Int) == 0) = true := by simp; omega
                    clear c4
                    go_wp2_with fail
                    go_meet
                    case rel => exact ⟨by have := HE2.out; cases this; rfl, by have := HE2.out; cases this; rfl, by have := HE2.out; cases this; omega, rfl⟩
                  · have HN := Lib.hid (HONE.out.2.2.1 HC41.out c4)
                    have t6 : ((o : Int) == 0) = false := by simp; omega
                    have t8 : IntKind.i64.wrap ((o : Int) - 1) = ((o - 1 : Nat) : Int) := by rw [wrap_small _ (by omega) (by omega)]; omega
                    have t9 : (o : Int) - 1 = ((o - 1 : Nat) : Int) := by omega
                    have HT9 := Lib.hid t9
                    clear t9
                    go_wp2_with fail
                    go_round
                    case rel => exact ⟨o - 1, i + 1, by rw [← HT9.out], by go_num, by omega, by omega, HN.out⟩
                    case measure => simp [intOf]; omega
                · have t5 : ((c.toNat : Int) == 41) = false := by simp; omega
                  have HN := Lib.hid (HONE.out.2.2.2 h40.out (byte_ne (n := 41) (by omega) c3))
                  clear c3
                  go_wp2_with fail
                  go_round
                  case rel => exact ⟨o, i + 1, by go_num, by go_num, by omega, by omega, HN.out⟩
                  case measure => simp [intOf]; omega
          · rw [hw] at hwt
            have HE2 := Lib.hid (dgo_white HG.out hlt HC.out hw)
            clear hw
            by_cases t1 : (c.toNat : Int) ≤ 32
            · clear hwt
              go_wp2_with fail
              go_meet
              case rel => exact ⟨by have := HE2.out; cases this; rfl, by have := HE2.out; cases this; rfl, by have := HE2.out; cases this; omega, rfl⟩
            · have t2 : ((c.toNat : Int) == 127) = true := by rw [decide_eq_false t1] at hwt; exact hwt.symm
              clear hwt
              go_wp2_with fail
              go_meet
              case rel => exact ⟨by have := HE2.out; cases this; rfl, by have := HE2.out; cases this; rfl, by have := HE2.out; cases this; omega, rfl⟩
        · have HE2 := Lib.hid (dgo_end HG.out hlt)
          go_wp2_with fail
          go_meet
          case rel => exact ⟨by have := HE2.out; cases this; rfl, by have := HE2.out; cases this; rfl, by have := HE2.out; cases this; omega, rfl⟩
    case rest =>
      obtain ⟨rfl, rfl, hI9, rfl⟩ := hcut
      by_cases hI : I = 0 ∨ 0 < O
      · have HR := Lib.hid (show dest s.data.toList = ([], 0, false) by rw [HD.out, if_pos hI])
        by_cases hI0 : I = 0
        · subst hI0
          clear hI
          go_wp2_with fail
          try rw [Exit.noGoto_ret]
          go_ret3
          exact ⟨ret_sib HR.out rfl, Below.refl _ _⟩
        · have t1 : ((I : Int) == 0) = false := by simp; omega
          have t2 : (0 : Int) < (O : Int) := by omega
          clear hI hI0
          go_wp2_with fail
          try rw [Exit.noGoto_ret]
          go_ret3
          exact ⟨ret_sib HR.out rfl, Below.refl _ _⟩
      · have HR := Lib.hid (show dest s.data.toList = (unesc (s.data.toList.take I), I, true) by rw [HD.out, if_neg hI])
        have t1 : ((I : Int) == 0) = false := by simp; omega
        have t2 : ¬ (0 : Int) < (O : Int) := by omega
        obtain ⟨S, hS⟩ : ∃ S : ByteArray, s.extract 0 I = S := ⟨_, rfl⟩
        have hSl : S.data.toList = s.data.toList.take I := by rw [← hS, Lib.extract_data]; simp
        have hSz : S.size ≤ 1000000000 := by rw [Lib.size_eq, hSl]; simp; omega
        have hun := unesc_any S wc hE hSz
        rw [hSl] at hun
        have HU := Lib.hid hun
        clear hun hSl hI
        go_wp2_with fail
        refine (HU.out).mono ?_
        rintro e w1 ⟨rfl, hb⟩
        go_wp2_with fail
        try rw [Exit.noGoto_ret]
        go_ret3
        exact ⟨ret_sib HR.out rfl, hb⟩

end Go.Proofs.YtmllkffdejojbaaDoor
