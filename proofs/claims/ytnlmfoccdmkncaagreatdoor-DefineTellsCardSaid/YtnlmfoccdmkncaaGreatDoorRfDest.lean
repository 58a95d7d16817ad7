/-
  The reference's Dest: it answers as the program's does.
-/
import Derived.Test.YtnlmfoccdmkncaaGreatDoorRfUn
import Derived.Test.YtnlmfoccdmkncaaGreatDoorDefD
namespace Go.Proofs.YtnlmfoccdmkncaaGreatDoor
open Go.RowKit
set_option maxRecDepth 100000
set_option linter.unusedVariables false
set_option linter.unusedSimpArgs false

theorem is_no {c d : UInt8} (h : c ≠ d) : ((c.toNat : Int) == (d.toNat : Int)) = false := by
  rw [beq_eq_false_iff_ne]
  intro e
  exact h (UInt8.toNat_inj.1 (by omega))

set_option maxHeartbeats 8000000 in
theorem rdest_angle (s : ByteArray) (w : World) (hs : s.size ≤ 1000000) (h60 : s.data.toList.head? = some 60) :
    Calls Tryz.prog 30 #[.string s] w fun e w' => e = .returned (.tuple #[.string ⟨(dest s.data.toList).1.toArray⟩, .int .i64 (dest s.data.toList).2.1, .bool (dest s.data.toList).2.2]) ∧ Below w.heap.size w w' := by
  have hD : dest s.data.toList = angled s.data.toList := by unfold dest; rw [if_pos h60]
  rw [hD]
  have h0 : 0 < s.size := by
    rw [Lib.size_eq]
    cases hl : s.data.toList with
    | nil => rw [hl] at h60; cases h60
    | cons _ _ => simp
  have he := empty_no h0
  obtain ⟨c0, hc0⟩ : ∃ c, s[0] = c := ⟨_, rfl⟩
  have e60 : c0 = 60 := by
    have := drop_at s 0 h0
    rw [List.drop_zero, hc0] at this
    rw [this] at h60
    simpa using h60
  have t0 : ((c0.toNat : Int) == 60) = true := by rw [e60]; rfl
  obtain ⟨R, hR⟩ : ∃ R, scanTo 62 angBad s.data.toList.length (s.data.toList.drop 1) 1 = R := ⟨_, rfl⟩
  have hsc0 : ScanTo s 62 angBad 1 R := ⟨_, hR, by rw [Lib.size_eq]; omega⟩
  have HR := Lib.hid hR
  have HS0 := Lib.hid hsc0
  clear hR hsc0 hD h60 e60
  go_enter Tryz.func30, Tryz.ntmps30
  go_wp2_with fail
  clear he t0 hc0
  go_loop [5] (fun u5 => ∃ i : Nat, 1 ≤ i ∧ i ≤ 1000000002 ∧ u5 = .int .i64 i ∧ ScanTo s 62 angBad i R) (fun u5 => s.size - (intOf u5).toNat)
  case atStart => exact ⟨1, by omega, by omega, rfl, HS0.out⟩
  case round =>
    obtain ⟨i, hi1, hi2, rfl, hsc⟩ := hrel
    by_cases hlt : i < s.size
    · have hltI : (i : Int) < (s.size : Int) := by omega
      obtain ⟨c, hc⟩ : ∃ c, s[i] = c := ⟨_, rfl⟩
      have HSC := Lib.hid hsc
      have HC := Lib.hid hc
      clear hsc
      by_cases c1 : c = 92
      · have t1 : ((c.toNat : Int) == 92) = true := by rw [c1]; rfl
        by_cases h2 : i + 1 < s.size
        · have h2I : (i : Int) + 1 < (s.size : Int) := by omega
          obtain ⟨d, hd⟩ : ∃ d, s[i + 1] = d := ⟨_, rfl⟩
          have hgd : s.data.toList[i + 1]? = some d := by rw [← hd]; exact Lib.data_getElem? s (i + 1) h2
          by_cases d0 : d = 0
          · have t2 : ((d.toNat : Int) == 0) = true := by rw [d0]; rfl
            have HN := Lib.hid (angled_none (by rw [HR.out]; exact scan_slash0 HSC.out hlt (by rw [HC.out, c1]) (by rw [hgd, d0])))
            clear c1 d0 hgd
            go_wp2_with fail
            go_ret3
            exact ⟨ret_sib (m := 0) HN.out rfl, Below.refl _ _⟩
          · have t2 : ((d.toNat : Int) == 0) = false := is_no (d := 0) d0
            have HN := Lib.hid (scan_slash1 HSC.out hlt (by rw [HC.out, c1]) (by rw [hgd]; exact fun e => d0 (Option.some.inj e)))
            clear c1 d0 hgd
            go_wp2_with fail
            go_round
            case rel => exact ⟨i + 2, by omega, by omega, by go_num, HN.out⟩
            case measure => simp [intOf]; omega
        · have h2I : ¬ (i : Int) + 1 < (s.size : Int) := by omega
          have HN := Lib.hid (scan_slash1 HSC.out hlt (by rw [HC.out, c1]) (by rw [List.getElem?_eq_none (by rw [← Lib.size_eq]; omega)]; simp))
          clear c1
          go_wp2_with fail
          go_round
          case rel => exact ⟨i + 2, by omega, by omega, by go_num, HN.out⟩
          case measure => simp [intOf]; omega
      · have t1 : ((c.toNat : Int) == 92) = false := is_no (d := 92) c1
        by_cases c2 : c = 62
        · have t2 : ((c.toNat : Int) == 62) = true := by rw [c2]; rfl
          have HN := Lib.hid (angled_some (by rw [HR.out]; exact scan_hit0 HSC.out hlt (by rw [HC.out, c2]) (by decide)))
          clear c1 c2
          obtain ⟨S, hS⟩ : ∃ S : ByteArray, s.extract 1 i = S := ⟨_, rfl⟩
          have hSl : S.data.toList = (s.data.toList.take i).tail := by rw [← hS, ext_list]
          have hSz : S.size ≤ 1000000 := by rw [Lib.size_eq, hSl]; simp; omega
          have hun := runesc_any S w hSz
          rw [hSl] at hun
          have HU := Lib.hid hun
          clear hun hSl
          go_wp2_with fail
          refine (HU.out).mono ?_
          rintro e w' ⟨rfl, hb⟩
          go_wp2_with fail
          go_ret3
          exact ⟨ret_sib (m := i + 1) HN.out (by simp), hb⟩
        · have t2 : ((c.toNat : Int) == 62) = false := is_no (d := 62) c2
          by_cases c3 : c = 60
          · have t3 : ((c.toNat : Int) == 60) = true := by rw [c3]; rfl
            have HN := Lib.hid (angled_none (by rw [HR.out]; exact scan_bad0 HSC.out hlt HC.out c1 c2 (Or.inl (by rw [c3]; decide))))
            clear c1 c2 c3
            go_wp2_with fail
            go_ret3
            exact ⟨ret_sib (m := 0) HN.out rfl, Below.refl _ _⟩
          · have t3 : ((c.toNat : Int) == 60) = false := is_no (d := 60) c3
            by_cases c4 : c = 10
            · have t4 : ((c.toNat : Int) == 10) = true := by rw [c4]; rfl
              have HN := Lib.hid (angled_none (by rw [HR.out]; exact scan_bad0 HSC.out hlt HC.out c1 c2 (Or.inl (by rw [c4]; decide))))
              clear c1 c2 c3 c4
              go_wp2_with fail
              go_ret3
              exact ⟨ret_sib (m := 0) HN.out rfl, Below.refl _ _⟩
            · have t4 : ((c.toNat : Int) == 10) = false := is_no (d := 10) c4
              by_cases c5 : c = 0
              · have t5 : ((c.toNat : Int) == 0) = true := by rw [c5]; rfl
                have HN := Lib.hid (angled_none (by rw [HR.out]; exact scan_bad0 HSC.out hlt HC.out c1 c2 (Or.inr c5)))
                clear c1 c2 c3 c4 c5
                go_wp2_with fail
                go_ret3
                exact ⟨ret_sib (m := 0) HN.out rfl, Below.refl _ _⟩
              · have t5 : ((c.toNat : Int) == 0) = false := is_no (d := 0) c5
                have hbad : ¬ (angBad c = true ∨ c = 0) := by
                  rintro (h | h)
                  · unfold angBad at h; simp [c3, c4] at h
                  · exact c5 h
                have HN := Lib.hid (scan_next HSC.out hlt HC.out c1 c2 hbad)
                clear c1 c2 c3 c4 c5 hbad
                go_wp2_with fail
                go_round
                case rel => exact ⟨i + 1, by omega, by omega, by go_num, HN.out⟩
                case measure => simp [intOf]; omega
    · have HN := Lib.hid (angled_none (by rw [HR.out]; exact scan_end0 hsc hlt))
      clear hsc
      go_wp2_with fail
      go_ret3
      exact ⟨ret_sib (m := 0) HN.out rfl, Below.refl _ _⟩

theorem dest_nil : dest [] = ([], 0, false) := by decide +kernel

set_option maxHeartbeats 8000000 in
theorem rdest_any (s : ByteArray) (w : World) (hs : s.size ≤ 1000000) :
    Calls Tryz.prog 30 #[.string s] w fun e w' => e = .returned (.tuple #[.string ⟨(dest s.data.toList).1.toArray⟩, .int .i64 (dest s.data.toList).2.1, .bool (dest s.data.toList).2.2]) ∧ Below w.heap.size w w' := by
  by_cases h60 : s.data.toList.head? = some 60
  · exact rdest_angle s w hs h60
  by_cases h0 : 0 < s.size
  · have he := empty_no h0
    obtain ⟨c0, hc0⟩ : ∃ c, s[0] = c := ⟨_, rfl⟩
    have e60 : c0 ≠ 60 := by
      intro e
      have := drop_at s 0 h0
      rw [List.drop_zero, hc0, e] at this
      rw [this] at h60
      exact h60 rfl
    have t0 : ((c0.toNat : Int) == 60) = false := is_no (d := 60) e60
    obtain ⟨⟨O, I⟩, hR⟩ : ∃ R, destGo s.data.toList.length s.data.toList 0 0 = R := ⟨_, rfl⟩
    have hd0 : DGo s 0 0 (O, I) := ⟨_, by rw [List.drop_zero]; exact hR, by rw [Lib.size_eq]; omega⟩
    have HD := Lib.hid (dest_eq s.data.toList O I h60 hR)
    have H0 := Lib.hid hd0
    clear h60 e60 hR hd0
    go_enter Tryz.func30, Tryz.ntmps30
    go_wp2_with fail
    clear he t0 hc0
    go_loop [6, 7] (fun u6 u7 => ∃ o i : Nat, u6 = .int .i64 o ∧ u7 = .int .i64 i ∧ i ≤ s.size ∧ o ≤ i ∧ DGo s o i (O, I)) (fun _ u7 => s.size - (intOf u7).toNat)
    case atStart => exact ⟨0, 0, rfl, rfl, by omega, by omega, H0.out⟩
    case round =>
      obtain ⟨o, i, rfl, rfl, his, hoi, hdg⟩ := hrel
      have HDG := Lib.hid hdg
      clear hdg
      by_cases hlt : i < s.size
      · have hltI : (i : Int) < (s.size : Int) := by omega
        obtain ⟨c, hc⟩ : ∃ c, s[i] = c := ⟨_, rfl⟩
        have HC := Lib.hid hc
        have hwt := white_test c
        by_cases hw : isWhite c = true
        · have HRI := Lib.hid (dgo_white HDG.out hlt HC.out hw)
          rw [hw] at hwt
          by_cases k1 : (c.toNat : Int) ≤ 32
          · clear hwt hw
            obtain ⟨hO, hI⟩ : O = o ∧ I = i := by have := HRI.out; simpa using this
            subst hO hI
            by_cases i0 : I = 0
            · have q0 : ((I : Int) == 0) = true := by simp; exact i0
              have HN := Lib.hid (HD.out.trans (if_pos (Or.inl i0)))
              clear i0
              go_wp2_with fail
              go_ret3
              exact ⟨ret_sib (m := 0) HN.out rfl, Below.refl _ _⟩
            · have q0 : ((I : Int) == 0) = false := by simp; exact i0
              by_cases o0 : 0 < O
              · have q1 : (0 : Int) < (O : Int) := by omega
                have HN := Lib.hid (HD.out.trans (if_pos (Or.inr o0)))
                clear i0 o0
                go_wp2_with fail
                go_ret3
                exact ⟨ret_sib (m := 0) HN.out rfl, Below.refl _ _⟩
              · have q1 : ¬ (0 : Int) < (O : Int) := by omega
                have HN := Lib.hid (HD.out.trans (if_neg (fun h => h.elim i0 o0)))
                obtain ⟨S, hS⟩ : ∃ S : ByteArray, s.extract 0 I = S := ⟨_, rfl⟩
                have hSl : S.data.toList = s.data.toList.take I := by rw [← hS, ext_take]
                have hSz : S.size ≤ 1000000 := by rw [Lib.size_eq, hSl]; simp; omega
                have hun := runesc_any S w hSz
                rw [hSl] at hun
                have HU := Lib.hid hun
                clear hun hSl i0 o0
                go_wp2_with fail
                refine (HU.out).mono ?_
                rintro e w' ⟨rfl, hb⟩
                go_wp2_with fail
                go_ret3
                exact ⟨ret_sib HN.out rfl, hb⟩
          · have k2 : ((c.toNat : Int) == 127) = true := by
              rw [decide_eq_false k1, Bool.false_or] at hwt
              exact hwt.symm
            clear hwt hw
            obtain ⟨hO, hI⟩ : O = o ∧ I = i := by have := HRI.out; simpa using this
            subst hO hI
            by_cases i0 : I = 0
            · have q0 : ((I : Int) == 0) = true := by simp; exact i0
              have HN := Lib.hid (HD.out.trans (if_pos (Or.inl i0)))
              clear i0
              go_wp2_with fail
              go_ret3
              exact ⟨ret_sib (m := 0) HN.out rfl, Below.refl _ _⟩
            · have q0 : ((I : Int) == 0) = false := by simp; exact i0
              by_cases o0 : 0 < O
              · have q1 : (0 : Int) < (O : Int) := by omega
                have HN := Lib.hid (HD.out.trans (if_pos (Or.inr o0)))
                clear i0 o0
                go_wp2_with fail
                go_ret3
                exact ⟨ret_sib (m := 0) HN.out rfl, Below.refl _ _⟩
              · have q1 : ¬ (0 : Int) < (O : Int) := by omega
                have HN := Lib.hid (HD.out.trans (if_neg (fun h => h.elim i0 o0)))
                obtain ⟨S, hS⟩ : ∃ S : ByteArray, s.extract 0 I = S := ⟨_, rfl⟩
                have hSl : S.data.toList = s.data.toList.take I := by rw [← hS, ext_take]
                have hSz : S.size ≤ 1000000 := by rw [Lib.size_eq, hSl]; simp; omega
                have hun := runesc_any S w hSz
                rw [hSl] at hun
                have HU := Lib.hid hun
                clear hun hSl i0 o0
                go_wp2_with fail
                refine (HU.out).mono ?_
                rintro e w' ⟨rfl, hb⟩
                go_wp2_with fail
                go_ret3
                exact ⟨ret_sib HN.out rfl, hb⟩
        · have hwf : isWhite c = false := by simpa using hw
          rw [hwf] at hwt
          have k1 : ¬ (c.toNat : Int) ≤ 32 := by intro h; rw [decide_eq_true h, Bool.true_or] at hwt; cases hwt
          have k2 : ((c.toNat : Int) == 127) = false := by rw [decide_eq_false k1, Bool.false_or] at hwt; exact hwt.symm
          clear hwt hw
          by_cases c92 : c = 92
          · have t41 : ((c.toNat : Int) == 41) = false := by rw [c92]; rfl
            have t40 : ((c.toNat : Int) == 40) = false := by rw [c92]; rfl
            have t92 : ((c.toNat : Int) == 92) = true := by rw [c92]; rfl
            by_cases h2 : i + 1 < s.size
            · have h2I : (i : Int) + 1 < (s.size : Int) := by omega
              obtain ⟨d, hd⟩ : ∃ d, s[i + 1] = d := ⟨_, rfl⟩
              have hgd : s.data.toList[i + 1]? = some d := by rw [← hd]; exact Lib.data_getElem? s (i + 1) h2
              have hwd := white_test d
              by_cases dw : isWhite d = true
              · have HN := Lib.hid ((dgo_one HDG.out hlt HC.out hwf (fun _ d' h => by rw [hgd] at h; obtain rfl := Option.some.inj h; exact dw)).2.2.2 (by rw [c92]; decide) (by rw [c92]; decide))
                rw [dw] at hwd
                by_cases m1 : (d.toNat : Int) ≤ 32
                · have m1' : ¬ (32 : Int) < (d.toNat : Int) := by omega
                  clear hwd dw hgd c92 m1
                  go_wp2_with fail
                  go_round
                  case rel => exact ⟨o, i + 1, rfl, by go_num, by omega, by omega, HN.out⟩
                  case measure => simp [intOf]; omega
                · have m1' : (32 : Int) < (d.toNat : Int) := by omega
                  have m2 : ((d.toNat : Int) != 127) = false := by
                    rw [decide_eq_false m1, Bool.false_or] at hwd
                    rw [bne, ← hwd]; rfl
                  clear hwd dw hgd c92 m1
                  go_wp2_with fail
                  go_round
                  case rel => exact ⟨o, i + 1, rfl, by go_num, by omega, by omega, HN.out⟩
                  case measure => simp [intOf]; omega
              · have dwf : isWhite d = false := by simpa using dw
                have HN := Lib.hid (dgo_slash HDG.out hlt (by rw [HC.out, c92]) hgd dwf)
                rw [dwf] at hwd
                have m1 : ¬ (d.toNat : Int) ≤ 32 := by intro h; rw [decide_eq_true h, Bool.true_or] at hwd; cases hwd
                have m1' : (32 : Int) < (d.toNat : Int) := by omega
                have m2 : ((d.toNat : Int) != 127) = true := by
                  rw [decide_eq_false m1, Bool.false_or] at hwd
                  rw [bne, ← hwd]; rfl
                clear hwd dw dwf hgd c92 m1
                go_wp2_with fail
                go_round
                case rel => exact ⟨o, i + 2, rfl, by go_num, by omega, by omega, HN.out⟩
                case measure => simp [intOf]; omega
            · have h2I : ¬ (i : Int) + 1 < (s.size : Int) := by omega
              have HN := Lib.hid ((dgo_one HDG.out hlt HC.out hwf (fun _ d' h => by rw [List.getElem?_eq_none (by rw [← Lib.size_eq]; omega)] at h; cases h)).2.2.2 (by rw [c92]; decide) (by rw [c92]; decide))
              clear c92
              go_wp2_with fail
              go_round
              case rel => exact ⟨o, i + 1, rfl, by go_num, by omega, by omega, HN.out⟩
              case measure => simp [intOf]; omega
          · have t92 : ((c.toNat : Int) == 92) = false := is_no (d := 92) c92
            obtain ⟨p1, p2, p3, p4⟩ := dgo_one HDG.out hlt HC.out hwf (fun h => absurd h c92)
            by_cases c41 : c = 41
            · have t41 : ((c.toNat : Int) == 41) = true := by rw [c41]; rfl
              have t40 : ((c.toNat : Int) == 40) = false := by rw [c41]; rfl
              by_cases o0 : o = 0
              · have q : ((o : Int) == 0) = true := by simp; exact o0
                have HRI := Lib.hid (p2 c41 o0)
                clear p1 p2 p3 p4 c41 c92 o0
                obtain ⟨hO, hI⟩ : O = o ∧ I = i := by have := HRI.out; simpa using this
                subst hO hI
                by_cases i0 : I = 0
                · have q0 : ((I : Int) == 0) = true := by simp; exact i0
                  have HN := Lib.hid (HD.out.trans (if_pos (Or.inl i0)))
                  clear i0
                  go_wp2_with fail
                  go_ret3
                  exact ⟨ret_sib (m := 0) HN.out rfl, Below.refl _ _⟩
                · have q0 : ((I : Int) == 0) = false := by simp; exact i0
                  by_cases o0 : 0 < O
                  · have q1 : (0 : Int) < (O : Int) := by omega
                    have HN := Lib.hid (HD.out.trans (if_pos (Or.inr o0)))
                    clear i0 o0
                    go_wp2_with fail
                    go_ret3
                    exact ⟨ret_sib (m := 0) HN.out rfl, Below.refl _ _⟩
                  · have q1 : ¬ (0 : Int) < (O : Int) := by omega
                    have HN := Lib.hid (HD.out.trans (if_neg (fun h => h.elim i0 o0)))
                    obtain ⟨S, hS⟩ : ∃ S : ByteArray, s.extract 0 I = S := ⟨_, rfl⟩
                    have hSl : S.data.toList = s.data.toList.take I := by rw [← hS, ext_take]
                    have hSz : S.size ≤ 1000000 := by rw [Lib.size_eq, hSl]; simp; omega
                    have hun := runesc_any S w hSz
                    rw [hSl] at hun
                    have HU := Lib.hid hun
                    clear hun hSl i0 o0
                    go_wp2_with fail
                    refine (HU.out).mono ?_
                    rintro e w' ⟨rfl, hb⟩
                    go_wp2_with fail
                    go_ret3
                    exact ⟨ret_sib HN.out rfl, hb⟩
              · have q : ((o : Int) == 0) = false := by simp; exact o0
                have HN := Lib.hid (p3 c41 o0)
                have ho1 : 1 ≤ o := by omega
                have hw1 : IntKind.i64.wrap ((o : Int) - 1) = ((o - 1 : Nat) : Int) := by rw [IntWalk.i64_in _ (by omega)]; omega
                clear p1 p2 p3 p4 c41 c92 o0
                go_wp2_with fail
                go_round
                case rel => exact ⟨o - 1, i + 1, by first | rfl | (congr 1; omega), by go_num, by omega, by omega, HN.out⟩
                case measure => simp [intOf]; omega
            · have t41 : ((c.toNat : Int) == 41) = false := is_no (d := 41) c41
              by_cases c40 : c = 40
              · have t40 : ((c.toNat : Int) == 40) = true := by rw [c40]; rfl
                have HN := Lib.hid (p1 c40)
                clear p1 p2 p3 p4 c41 c92 c40
                go_wp2_with fail
                go_round
                case rel => exact ⟨o + 1, i + 1, by go_num, by go_num, by omega, by omega, HN.out⟩
                case measure => simp [intOf]; omega
              · have t40 : ((c.toNat : Int) == 40) = false := is_no (d := 40) c40
                have HN := Lib.hid (p4 c40 c41)
                clear p1 p2 p3 p4 c41 c92 c40
                go_wp2_with fail
                go_round
                case rel => exact ⟨o, i + 1, rfl, by go_num, by omega, by omega, HN.out⟩
                case measure => simp [intOf]; omega
      · have HRI := Lib.hid (dgo_end HDG.out hlt)
        obtain ⟨hO, hI⟩ : O = o ∧ I = i := by have := HRI.out; simpa using this
        subst hO hI
        by_cases i0 : I = 0
        · have q0 : ((I : Int) == 0) = true := by simp; exact i0
          have HN := Lib.hid (HD.out.trans (if_pos (Or.inl i0)))
          clear i0
          go_wp2_with fail
          go_ret3
          exact ⟨ret_sib (m := 0) HN.out rfl, Below.refl _ _⟩
        · have q0 : ((I : Int) == 0) = false := by simp; exact i0
          by_cases o0 : 0 < O
          · have q1 : (0 : Int) < (O : Int) := by omega
            have HN := Lib.hid (HD.out.trans (if_pos (Or.inr o0)))
            clear i0 o0
            go_wp2_with fail
            go_ret3
            exact ⟨ret_sib (m := 0) HN.out rfl, Below.refl _ _⟩
          · have q1 : ¬ (0 : Int) < (O : Int) := by omega
            have HN := Lib.hid (HD.out.trans (if_neg (fun h => h.elim i0 o0)))
            obtain ⟨S, hS⟩ : ∃ S : ByteArray, s.extract 0 I = S := ⟨_, rfl⟩
            have hSl : S.data.toList = s.data.toList.take I := by rw [← hS, ext_take]
            have hSz : S.size ≤ 1000000 := by rw [Lib.size_eq, hSl]; simp; omega
            have hun := runesc_any S w hSz
            rw [hSl] at hun
            have HU := Lib.hid hun
            clear hun hSl i0 o0
            go_wp2_with fail
            refine (HU.out).mono ?_
            rintro e w' ⟨rfl, hb⟩
            go_wp2_with fail
            go_ret3
            exact ⟨ret_sib HN.out rfl, hb⟩
  · have he := empty_yes (s := s) (by omega)
    have hnil : s.data.toList = [] := List.eq_nil_of_length_eq_zero (by rw [← Lib.size_eq]; omega)
    have HN := Lib.hid (show dest s.data.toList = ([], 0, false) by rw [hnil, dest_nil])
    clear hnil h60
    go_enter Tryz.func30, Tryz.ntmps30
    go_wp2_with fail
    go_ret3
    exact ⟨ret_sib (m := 0) HN.out rfl, Below.refl _ _⟩

end Go.Proofs.YtnlmfoccdmkncaaGreatDoor
