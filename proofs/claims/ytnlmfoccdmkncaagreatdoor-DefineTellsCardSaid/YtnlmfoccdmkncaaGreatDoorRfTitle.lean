/-
  The reference's Title: it answers as the program's does.
-/
import Derived.Test.YtnlmfoccdmkncaaGreatDoorRfDest
import Derived.Test.YtnlmfoccdmkncaaGreatDoorDefD
namespace Go.Proofs.YtnlmfoccdmkncaaGreatDoor
open Go.RowKit
set_option maxRecDepth 100000
set_option linter.unusedVariables false
set_option linter.unusedSimpArgs false

theorem is_noB {c d : UInt8} (h : c ≠ d) : ((c.toNat : Int) != (d.toNat : Int)) = true := by
  rw [bne, is_no h]; rfl
theorem is_yesB (c : UInt8) : ((c.toNat : Int) != (c.toNat : Int)) = false := by simp


set_option maxHeartbeats 16000000 in
theorem rtitle_any (s : ByteArray) (w : World) (hs : s.size ≤ 1000000) :
    Calls Tryz.prog 32 #[.string s] w fun e w' => e = .returned (.tuple #[.string ⟨(title s.data.toList).1.toArray⟩, .int .i64 (title s.data.toList).2.1, .bool (title s.data.toList).2.2]) ∧ Below w.heap.size w w' := by
  by_cases h0 : 0 < s.size
  · have he := empty_no h0
    have hda := drop_at s 0 h0
    obtain ⟨q, hq⟩ : ∃ q, s[0] = q := ⟨_, rfl⟩
    rw [hq, List.drop_zero, Nat.zero_add] at hda
    obtain ⟨r, hr⟩ : ∃ r, s.data.toList.drop 1 = r := ⟨_, rfl⟩
    rw [hr] at hda
    have hrl : r.length + 1 = s.size := by rw [← hr]; simp; omega
    by_cases hQ : IsQuote q
    · obtain ⟨bad, hbad⟩ : ∃ b, b = (fun d : UInt8 => d == 40 && endOf q == 41) := ⟨_, rfl⟩
      obtain ⟨R, hR⟩ : ∃ R, scanTo (endOf q) bad r.length r 1 = R := ⟨_, rfl⟩
      have hsc0 : ScanTo s (endOf q) bad 1 R := ⟨_, by rw [hr]; exact hR, by omega⟩
      have HMISS := Lib.hid (show R = none → title s.data.toList = ([], 0, false) from fun h => by rw [hda]; exact title_miss hQ (by rw [← hbad, hR, h]))
      have HHIT := Lib.hid (show ∀ i, R = some i → title s.data.toList = (unesc (s.data.toList.take i).tail, i + 1, true) from fun i h => by rw [hda]; exact title_hit hQ (by rw [← hbad, hR, h]))
      by_cases hq40 : q = 40
      · have t0 : ((q.toNat : Int) == 40) = true := by rw [hq40]; rfl
        have t34 : ((q.toNat : Int) != 34) = true := is_noB (d := 34) (by rw [hq40]; decide)
        have t39 : ((q.toNat : Int) != 39) = true := is_noB (d := 39) (by rw [hq40]; decide)
        have t40 : ((q.toNat : Int) != 40) = false := by rw [hq40]; rfl
        have hend : endOf q = 41 := by rw [hq40]; rfl
        rw [hend] at hsc0
        have HS0 := Lib.hid hsc0
        have HBAD := Lib.hid (show ∀ c, bad c = (c == 40) from fun c => by rw [hbad, hend]; simp)
        have HE0 := Lib.hid (show (0 : UInt8) ≠ 41 ∧ (41 : UInt8) ≠ 92 from by decide)
        clear hda hr hQ hbad hR hsc0 hq40 hend
        go_enter Tryz.func32, Tryz.ntmps32
        go_wp2_with fail
        clear he t0 t34 t39 t40 hq
        go_loop [6] (fun u6 => ∃ i : Nat, 1 ≤ i ∧ i ≤ 1000000002 ∧ u6 = .int .i64 i ∧ ScanTo s (41 : UInt8) bad i R) (fun u6 => s.size - (intOf u6).toNat)
        case atStart => exact ⟨1, by omega, by omega, rfl, HS0.out⟩
        case round =>
          obtain ⟨i, hi1, hi2, rfl, hsc⟩ := hrel
          by_cases hlt : i < s.size
          · have hltI : (i : Int) < (s.size : Int) := by omega
            obtain ⟨c, hc⟩ : ∃ c, s[i] = c := ⟨_, rfl⟩
            have HSC := Lib.hid hsc
            have HC := Lib.hid hc
            clear hsc
            by_cases c0 : c = 0
            · have t1 : ((c.toNat : Int) == 0) = true := by rw [c0]; rfl
              have HN := Lib.hid (HMISS.out (scan_bad0 HSC.out hlt HC.out (by rw [c0]; decide) (by rw [c0]; exact HE0.out.1) (Or.inr c0)))
              clear c0
              go_wp2_with fail
              go_ret3
              exact ⟨ret_sib (m := 0) HN.out rfl, Below.refl _ _⟩
            · have t1 : ((c.toNat : Int) == 0) = false := is_no (d := 0) c0
              by_cases c1 : c = 92
              · have t2 : ((c.toNat : Int) == 92) = true := by rw [c1]; rfl
                by_cases h2 : i + 1 < s.size
                · have h2I : (i : Int) + 1 < (s.size : Int) := by omega
                  obtain ⟨d, hd⟩ : ∃ d, s[i + 1] = d := ⟨_, rfl⟩
                  have hgd : s.data.toList[i + 1]? = some d := by rw [← hd]; exact Lib.data_getElem? s (i + 1) h2
                  by_cases d0 : d = 0
                  · have t3 : ((d.toNat : Int) == 0) = true := by rw [d0]; rfl
                    have HN := Lib.hid (HMISS.out (scan_slash0 HSC.out hlt (by rw [HC.out, c1]) (by rw [hgd, d0])))
                    clear c0 c1 d0 hgd
                    go_wp2_with fail
                    go_ret3
                    exact ⟨ret_sib (m := 0) HN.out rfl, Below.refl _ _⟩
                  · have t3 : ((d.toNat : Int) == 0) = false := is_no (d := 0) d0
                    have HN := Lib.hid (scan_slash1 HSC.out hlt (by rw [HC.out, c1]) (by rw [hgd]; exact fun e => d0 (Option.some.inj e)))
                    clear c0 c1 d0 hgd
                    go_wp2_with fail
                    go_round
                    case rel => exact ⟨i + 2, by omega, by omega, by go_num, HN.out⟩
                    case measure => simp [intOf]; omega
                · have h2I : ¬ (i : Int) + 1 < (s.size : Int) := by omega
                  have HN := Lib.hid (scan_slash1 HSC.out hlt (by rw [HC.out, c1]) (by rw [List.getElem?_eq_none (by rw [← Lib.size_eq]; omega)]; simp))
                  clear c0 c1
                  go_wp2_with fail
                  go_round
                  case rel => exact ⟨i + 2, by omega, by omega, by go_num, HN.out⟩
                  case measure => simp [intOf]; omega
              · have t2 : ((c.toNat : Int) == 92) = false := is_no (d := 92) c1
                by_cases c2 : c = (41 : UInt8)
                · have t4 : ((c.toNat : Int) == (((41 : UInt8)).toNat : Int)) = true := by rw [c2]; simp
                  have HN := Lib.hid (HHIT.out i (scan_hit0 HSC.out hlt (by rw [HC.out, c2]) HE0.out.2))
                  obtain ⟨S, hS⟩ : ∃ S : ByteArray, s.extract 1 i = S := ⟨_, rfl⟩
                  have hSl : S.data.toList = (s.data.toList.take i).tail := by rw [← hS, ext_list]
                  have hSz : S.size ≤ 1000000 := by rw [Lib.size_eq, hSl]; simp; omega
                  have hun := runesc_any S w hSz
                  rw [hSl] at hun
                  have HU := Lib.hid hun
                  clear hun hSl c0 c1
                  try rw [show ((((41 : UInt8)).toNat : Nat) : Int) = 41 from rfl] at t4
                  clear c2
                  go_wp2_with fail
                  refine (HU.out).mono ?_
                  rintro e w' ⟨rfl, hb⟩
                  go_wp2_with fail
                  go_ret3
                  exact ⟨ret_sib (m := i + 1) HN.out (by simp), hb⟩
                · have t4 : ((c.toNat : Int) == (((41 : UInt8)).toNat : Int)) = false := is_no c2
                  try rw [show ((((41 : UInt8)).toNat : Nat) : Int) = 41 from rfl] at t4
                  by_cases c40 : c = 40
                  · have t6 : ((c.toNat : Int) == 40) = true := by rw [c40]; rfl
                    have HN := Lib.hid (HMISS.out (scan_bad0 HSC.out hlt HC.out c1 c2 (Or.inl (by rw [HBAD.out c, c40]; rfl))))
                    clear c0 c1 c2 c40
                    go_wp2_with fail
                    go_ret3
                    exact ⟨ret_sib (m := 0) HN.out rfl, Below.refl _ _⟩
                  · have t6 : ((c.toNat : Int) == 40) = false := is_no (d := 40) c40
                    have HN := Lib.hid (scan_next HSC.out hlt HC.out c1 c2 (by rintro (h | h); exact c40 (by rw [HBAD.out c] at h; simpa using h); exact c0 h))
                    clear c0 c1 c2 c40
                    go_wp2_with fail
                    go_round
                    case rel => exact ⟨i + 1, by omega, by omega, by go_num, HN.out⟩
                    case measure => simp [intOf]; omega
          · have HN := Lib.hid (HMISS.out (scan_end0 hsc hlt))
            clear hsc
            go_wp2_with fail
            go_ret3
            exact ⟨ret_sib (m := 0) HN.out rfl, Below.refl _ _⟩
      · have t0 : ((q.toNat : Int) == 40) = false := is_no (d := 40) hq40
        have t40 : ((q.toNat : Int) != 40) = true := is_noB (d := 40) hq40
        have hend : endOf q = q := by unfold endOf; rw [if_neg hq40]
        have h3439 : q = 34 ∨ q = 39 := by rcases hQ with h | h | h; exact .inl h; exact .inr h; exact absurd h hq40
        have q41 : q ≠ 41 := by rcases h3439 with h | h <;> (rw [h]; decide)
        have t41 : ((q.toNat : Int) == 41) = false := is_no (d := 41) q41
        rw [hend] at hsc0
        have HS0 := Lib.hid hsc0
        have HBAD := Lib.hid (show ∀ c, bad c = false from fun c => by rw [hbad, hend]; simp [q41])
        have HE0 := Lib.hid (show (0 : UInt8) ≠ q ∧ q ≠ 92 from by rcases h3439 with h | h <;> (rw [h]; decide))
        have hH : (((q.toNat : Int) != 34) = false) ∨ ((((q.toNat : Int) != 34) = true) ∧ (((q.toNat : Int) != 39) = false)) := by
          rcases h3439 with h | h
          · exact .inl (by rw [h]; rfl)
          · exact .inr ⟨by rw [h]; rfl, by rw [h]; rfl⟩
        clear hda hr hQ hbad hR hsc0 hq40 hend h3439 q41
        rcases hH with t34 | ⟨t34, t39⟩
        · go_enter Tryz.func32, Tryz.ntmps32
          go_wp2_with fail
          clear he t0 t34 t40 hq
          go_loop [6] (fun u6 => ∃ i : Nat, 1 ≤ i ∧ i ≤ 1000000002 ∧ u6 = .int .i64 i ∧ ScanTo s q bad i R) (fun u6 => s.size - (intOf u6).toNat)
          case atStart => exact ⟨1, by omega, by omega, rfl, HS0.out⟩
          case round =>
            obtain ⟨i, hi1, hi2, rfl, hsc⟩ := hrel
            by_cases hlt : i < s.size
            · have hltI : (i : Int) < (s.size : Int) := by omega
              obtain ⟨c, hc⟩ : ∃ c, s[i] = c := ⟨_, rfl⟩
              have HSC := Lib.hid hsc
              have HC := Lib.hid hc
              clear hsc
              by_cases c0 : c = 0
              · have t1 : ((c.toNat : Int) == 0) = true := by rw [c0]; rfl
                have HN := Lib.hid (HMISS.out (scan_bad0 HSC.out hlt HC.out (by rw [c0]; decide) (by rw [c0]; exact HE0.out.1) (Or.inr c0)))
                clear c0
                go_wp2_with fail
                go_ret3
                exact ⟨ret_sib (m := 0) HN.out rfl, Below.refl _ _⟩
              · have t1 : ((c.toNat : Int) == 0) = false := is_no (d := 0) c0
                by_cases c1 : c = 92
                · have t2 : ((c.toNat : Int) == 92) = true := by rw [c1]; rfl
                  by_cases h2 : i + 1 < s.size
                  · have h2I : (i : Int) + 1 < (s.size : Int) := by omega
                    obtain ⟨d, hd⟩ : ∃ d, s[i + 1] = d := ⟨_, rfl⟩
                    have hgd : s.data.toList[i + 1]? = some d := by rw [← hd]; exact Lib.data_getElem? s (i + 1) h2
                    by_cases d0 : d = 0
                    · have t3 : ((d.toNat : Int) == 0) = true := by rw [d0]; rfl
                      have HN := Lib.hid (HMISS.out (scan_slash0 HSC.out hlt (by rw [HC.out, c1]) (by rw [hgd, d0])))
                      clear c0 c1 d0 hgd
                      go_wp2_with fail
                      go_ret3
                      exact ⟨ret_sib (m := 0) HN.out rfl, Below.refl _ _⟩
                    · have t3 : ((d.toNat : Int) == 0) = false := is_no (d := 0) d0
                      have HN := Lib.hid (scan_slash1 HSC.out hlt (by rw [HC.out, c1]) (by rw [hgd]; exact fun e => d0 (Option.some.inj e)))
                      clear c0 c1 d0 hgd
                      go_wp2_with fail
                      go_round
                      case rel => exact ⟨i + 2, by omega, by omega, by go_num, HN.out⟩
                      case measure => simp [intOf]; omega
                  · have h2I : ¬ (i : Int) + 1 < (s.size : Int) := by omega
                    have HN := Lib.hid (scan_slash1 HSC.out hlt (by rw [HC.out, c1]) (by rw [List.getElem?_eq_none (by rw [← Lib.size_eq]; omega)]; simp))
                    clear c0 c1
                    go_wp2_with fail
                    go_round
                    case rel => exact ⟨i + 2, by omega, by omega, by go_num, HN.out⟩
                    case measure => simp [intOf]; omega
                · have t2 : ((c.toNat : Int) == 92) = false := is_no (d := 92) c1
                  by_cases c2 : c = q
                  · have t4 : ((c.toNat : Int) == ((q).toNat : Int)) = true := by rw [c2]; simp
                    have HN := Lib.hid (HHIT.out i (scan_hit0 HSC.out hlt (by rw [HC.out, c2]) HE0.out.2))
                    obtain ⟨S, hS⟩ : ∃ S : ByteArray, s.extract 1 i = S := ⟨_, rfl⟩
                    have hSl : S.data.toList = (s.data.toList.take i).tail := by rw [← hS, ext_list]
                    have hSz : S.size ≤ 1000000 := by rw [Lib.size_eq, hSl]; simp; omega
                    have hun := runesc_any S w hSz
                    rw [hSl] at hun
                    have HU := Lib.hid hun
                    clear hun hSl c0 c1
                    try rw [show (((q).toNat : Nat) : Int) = 41 from rfl] at t4
                    clear c2
                    go_wp2_with fail
                    refine (HU.out).mono ?_
                    rintro e w' ⟨rfl, hb⟩
                    go_wp2_with fail
                    go_ret3
                    exact ⟨ret_sib (m := i + 1) HN.out (by simp), hb⟩
                  · have t4 : ((c.toNat : Int) == ((q).toNat : Int)) = false := is_no c2
                    try rw [show (((q).toNat : Nat) : Int) = 41 from rfl] at t4
                    have HN := Lib.hid (scan_next HSC.out hlt HC.out c1 c2 (by rintro (h | h); exact absurd h (by rw [HBAD.out c]; simp); exact c0 h))
                    clear c0 c1 c2
                    by_cases c40 : c = 40
                    · have t6 : ((c.toNat : Int) == 40) = true := by rw [c40]; rfl
                      clear c40
                      go_wp2_with fail
                      go_round
                      case rel => exact ⟨i + 1, by omega, by omega, by go_num, HN.out⟩
                      case measure => simp [intOf]; omega
                    · have t6 : ((c.toNat : Int) == 40) = false := is_no (d := 40) c40
                      clear c40
                      go_wp2_with fail
                      go_round
                      case rel => exact ⟨i + 1, by omega, by omega, by go_num, HN.out⟩
                      case measure => simp [intOf]; omega
            · have HN := Lib.hid (HMISS.out (scan_end0 hsc hlt))
              clear hsc
              go_wp2_with fail
              go_ret3
              exact ⟨ret_sib (m := 0) HN.out rfl, Below.refl _ _⟩
        · go_enter Tryz.func32, Tryz.ntmps32
          go_wp2_with fail
          clear he t0 t34 t39 t40 hq
          go_loop [6] (fun u6 => ∃ i : Nat, 1 ≤ i ∧ i ≤ 1000000002 ∧ u6 = .int .i64 i ∧ ScanTo s q bad i R) (fun u6 => s.size - (intOf u6).toNat)
          case atStart => exact ⟨1, by omega, by omega, rfl, HS0.out⟩
          case round =>
            obtain ⟨i, hi1, hi2, rfl, hsc⟩ := hrel
            by_cases hlt : i < s.size
            · have hltI : (i : Int) < (s.size : Int) := by omega
              obtain ⟨c, hc⟩ : ∃ c, s[i] = c := ⟨_, rfl⟩
              have HSC := Lib.hid hsc
              have HC := Lib.hid hc
              clear hsc
              by_cases c0 : c = 0
              · have t1 : ((c.toNat : Int) == 0) = true := by rw [c0]; rfl
                have HN := Lib.hid (HMISS.out (scan_bad0 HSC.out hlt HC.out (by rw [c0]; decide) (by rw [c0]; exact HE0.out.1) (Or.inr c0)))
                clear c0
                go_wp2_with fail
                go_ret3
                exact ⟨ret_sib (m := 0) HN.out rfl, Below.refl _ _⟩
              · have t1 : ((c.toNat : Int) == 0) = false := is_no (d := 0) c0
                by_cases c1 : c = 92
                · have t2 : ((c.toNat : Int) == 92) = true := by rw [c1]; rfl
                  by_cases h2 : i + 1 < s.size
                  · have h2I : (i : Int) + 1 < (s.size : Int) := by omega
                    obtain ⟨d, hd⟩ : ∃ d, s[i + 1] = d := ⟨_, rfl⟩
                    have hgd : s.data.toList[i + 1]? = some d := by rw [← hd]; exact Lib.data_getElem? s (i + 1) h2
                    by_cases d0 : d = 0
                    · have t3 : ((d.toNat : Int) == 0) = true := by rw [d0]; rfl
                      have HN := Lib.hid (HMISS.out (scan_slash0 HSC.out hlt (by rw [HC.out, c1]) (by rw [hgd, d0])))
                      clear c0 c1 d0 hgd
                      go_wp2_with fail
                      go_ret3
                      exact ⟨ret_sib (m := 0) HN.out rfl, Below.refl _ _⟩
                    · have t3 : ((d.toNat : Int) == 0) = false := is_no (d := 0) d0
                      have HN := Lib.hid (scan_slash1 HSC.out hlt (by rw [HC.out, c1]) (by rw [hgd]; exact fun e => d0 (Option.some.inj e)))
                      clear c0 c1 d0 hgd
                      go_wp2_with fail
                      go_round
                      case rel => exact ⟨i + 2, by omega, by omega, by go_num, HN.out⟩
                      case measure => simp [intOf]; omega
                  · have h2I : ¬ (i : Int) + 1 < (s.size : Int) := by omega
                    have HN := Lib.hid (scan_slash1 HSC.out hlt (by rw [HC.out, c1]) (by rw [List.getElem?_eq_none (by rw [← Lib.size_eq]; omega)]; simp))
                    clear c0 c1
                    go_wp2_with fail
                    go_round
                    case rel => exact ⟨i + 2, by omega, by omega, by go_num, HN.out⟩
                    case measure => simp [intOf]; omega
                · have t2 : ((c.toNat : Int) == 92) = false := is_no (d := 92) c1
                  by_cases c2 : c = q
                  · have t4 : ((c.toNat : Int) == ((q).toNat : Int)) = true := by rw [c2]; simp
                    have HN := Lib.hid (HHIT.out i (scan_hit0 HSC.out hlt (by rw [HC.out, c2]) HE0.out.2))
                    obtain ⟨S, hS⟩ : ∃ S : ByteArray, s.extract 1 i = S := ⟨_, rfl⟩
                    have hSl : S.data.toList = (s.data.toList.take i).tail := by rw [← hS, ext_list]
                    have hSz : S.size ≤ 1000000 := by rw [Lib.size_eq, hSl]; simp; omega
                    have hun := runesc_any S w hSz
                    rw [hSl] at hun
                    have HU := Lib.hid hun
                    clear hun hSl c0 c1
                    try rw [show (((q).toNat : Nat) : Int) = 41 from rfl] at t4
                    clear c2
                    go_wp2_with fail
                    refine (HU.out).mono ?_
                    rintro e w' ⟨rfl, hb⟩
                    go_wp2_with fail
                    go_ret3
                    exact ⟨ret_sib (m := i + 1) HN.out (by simp), hb⟩
                  · have t4 : ((c.toNat : Int) == ((q).toNat : Int)) = false := is_no c2
                    try rw [show (((q).toNat : Nat) : Int) = 41 from rfl] at t4
                    have HN := Lib.hid (scan_next HSC.out hlt HC.out c1 c2 (by rintro (h | h); exact absurd h (by rw [HBAD.out c]; simp); exact c0 h))
                    clear c0 c1 c2
                    by_cases c40 : c = 40
                    · have t6 : ((c.toNat : Int) == 40) = true := by rw [c40]; rfl
                      clear c40
                      go_wp2_with fail
                      go_round
                      case rel => exact ⟨i + 1, by omega, by omega, by go_num, HN.out⟩
                      case measure => simp [intOf]; omega
                    · have t6 : ((c.toNat : Int) == 40) = false := is_no (d := 40) c40
                      clear c40
                      go_wp2_with fail
                      go_round
                      case rel => exact ⟨i + 1, by omega, by omega, by go_num, HN.out⟩
                      case measure => simp [intOf]; omega
            · have HN := Lib.hid (HMISS.out (scan_end0 hsc hlt))
              clear hsc
              go_wp2_with fail
              go_ret3
              exact ⟨ret_sib (m := 0) HN.out rfl, Below.refl _ _⟩
    · have t34 : ((q.toNat : Int) != 34) = true := is_noB (d := 34) (fun h => hQ (.inl h))
      have t39 : ((q.toNat : Int) != 39) = true := is_noB (d := 39) (fun h => hQ (.inr (.inl h)))
      have t40 : ((q.toNat : Int) != 40) = true := is_noB (d := 40) (fun h => hQ (.inr (.inr h)))
      have HN := Lib.hid (show title s.data.toList = ([], 0, false) by rw [hda]; exact title_other hQ)
      clear hda hr hQ
      go_enter Tryz.func32, Tryz.ntmps32
      go_wp2_with fail
      go_ret3
      exact ⟨ret_sib (m := 0) HN.out rfl, Below.refl _ _⟩
  · have he := empty_yes (s := s) (by omega)
    have hnil : s.data.toList = [] := List.eq_nil_of_length_eq_zero (by rw [← Lib.size_eq]; omega)
    have HN := Lib.hid (show title s.data.toList = ([], 0, false) by rw [hnil]; rfl)
    clear hnil
    go_enter Tryz.func32, Tryz.ntmps32
    go_wp2_with fail
    go_ret3
    exact ⟨ret_sib (m := 0) HN.out rfl, Below.refl _ _⟩

end Go.Proofs.YtnlmfoccdmkncaaGreatDoor
