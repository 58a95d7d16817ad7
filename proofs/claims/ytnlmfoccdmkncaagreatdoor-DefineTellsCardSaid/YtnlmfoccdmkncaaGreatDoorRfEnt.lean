/-
  The reference's Entity: it answers as the program's At does.
-/
import Derived.Test.YtnlmfoccdmkncaaGreatDoorRfDigit
import Derived.Test.YtnlmfoccdmkncaaGreatDoorDefD
namespace Go.Proofs.YtnlmfoccdmkncaaGreatDoor
open Go.RowKit
set_option maxRecDepth 100000
set_option linter.unusedVariables false
set_option linter.unusedSimpArgs false

theorem prefix_take {a l : List UInt8} (h : l.take a.length = a) : a <+: l := by rw [← h]; exact List.take_prefix _ _
theorem take_prefix' {a l : List UInt8} (h : a <+: l) : l.take a.length = a := by obtain ⟨t, rfl⟩ := h; simp
theorem ent_short (l : List UInt8) (h : l.length < 4) (hp : [38, 35] <+: l) : entAt l = ([], 0) := by
  obtain ⟨r, rfl⟩ := hp
  have hr : r.length ≤ 1 := by simp at h; omega
  show entAt (38 :: 35 :: r) = _
  rw [entAt_sharp]
  match r, hr with
  | [], _ => decide +kernel
  | [c], _ =>
    rw [if_pos]
    by_cases hc : c = 120 ∨ c = 88
    · rcases hc with rfl | rfl <;> decide +kernel
    · have e : ¬ (([c] : List UInt8).head? = some 120 ∨ ([c] : List UInt8).head? = some 88) := by simpa using hc
      rw [if_neg e, if_neg e, if_neg e]
      rw [number_none]
      have : digLen 10 ((38 :: 35 :: [c]).drop 2) = 0 ∨ digLen 10 ((38 :: 35 :: [c]).drop 2) = 1 := by
        have := digLen_le 10 ([c])
        simp only [List.drop_succ_cons, List.drop_zero, List.length_singleton] at this ⊢
        omega
      rcases this with h | h
      · exact Or.inr (Or.inl h)
      · rw [h]; exact Or.inr (Or.inr (by simp))

theorem ent_ret (s : ByteArray) (x : ByteArray) (n : Int) (m : Nat) (h : entAt s.data.toList = (x.data.toList, m)) (hn : n = m) : Ending.returned (.tuple #[.string x, .int .i64 n]) = .returned (.tuple #[.string ⟨(entAt s.data.toList).1.toArray⟩, .int .i64 (entAt s.data.toList).2]) := ret_si h hn

theorem ent_no {l D : List UInt8} {a b m : Nat} (hD : entAt l = (if (number b m D).2 = 0 then ([], 0) else ((number b m D).1, a + (number b m D).2 + 1))) (h : m < digLen b D ∨ digLen b D = 0 ∨ D.getD (digLen b D) 0 ≠ 59) : entAt l = ([], 0) := by
  rw [hD, number_none b m D h, if_pos rfl]
theorem ent_yes {l D : List UInt8} {a b m v : Nat} {x : ByteArray} (hD : entAt l = (if (number b m D).2 = 0 then ([], 0) else ((number b m D).1, a + (number b m D).2 + 1))) (h1 : digLen b D ≤ m) (h2 : digLen b D ≠ 0) (h3 : D.getD (digLen b D) 0 = 59) (hv : numVal b (D.take (digLen b D)) = v)
    (hx : x.data.toList = if v = 0 ∨ Lib.validRune v = false then [239, 191, 189] else (Utf8.encode v).data.toList) : entAt l = (x.data.toList, a + digLen b D + 1) := by
  rw [hD, number_some b m D h1 h2 h3, hv, if_neg h2, hx]
theorem bad_rune : (Utf8.encode 65533).data.toList = [239, 191, 189] := by decide +kernel
theorem drop_getD (s : ByteArray) (a n : Nat) (h : a + n < s.size) : (s.data.toList.drop a).getD n 0 = s[a + n] := by
  rw [← getD_byte s (a + n) h, List.getD_eq_getElem?_getD, List.getD_eq_getElem?_getD, List.getElem?_drop]


set_option maxHeartbeats 8000000 in
theorem rentity_any (s : ByteArray) (w : World) (hs : s.size ≤ 1000000) :
    Calls Tryz.prog 122 #[.string s] w fun e w' => e = .returned (.tuple #[.string ⟨(entAt s.data.toList).1.toArray⟩, .int .i64 (entAt s.data.toList).2]) ∧ Below w.heap.size w w' := by
  go_enter Tryz.func122, Tryz.ntmps122
  go_wp2_with fail
  refine (rnames_any _).mono ?_
  rintro e w1 ⟨A, R, rfl, hN, b1⟩
  have HN := Lib.hid hN
  clear hN
  go_wp2_with fail
  go_loopw [6] (fun u6 wr => ∃ k m : Nat, k ≤ 23 ∧ u6 = .int .i64 k ∧ wr = w1.drewN m ∧ ∀ j, j < k → ¬ entText j <+: s.data.toList) (fun u6 _ => 23 - (intOf u6).toNat)
  case atStart => exact ⟨0, 0, by omega, rfl, rfl, fun j hj => by omega⟩
  case round =>
    obtain ⟨k, m, hk, rfl, rfl, hno⟩ := hrel
    have HNO := Lib.hid hno
    clear hno
    by_cases hlt : k < 23
    · have hltI : (k : Int) < 23 := by omega
      obtain ⟨c1, c2⟩ := HN.out.2.2 k hlt
      obtain ⟨p, hp⟩ : ∃ p : ByteArray, ⟨(entNames.getD k []).toArray⟩ = p := ⟨_, rfl⟩
      rw [hp] at c1
      have hpl : p.data.toList = entNames.getD k [] := by rw [← hp]
      have hps : p.size ≤ 6 := by rw [Lib.size_eq, hpl]; exact (ent_facts ⟨k, hlt⟩).2.2.2.2
      obtain ⟨r, hr⟩ : ∃ r, entRunes.getD k 0 = r := ⟨_, rfl⟩
      rw [hr] at c2
      have hetl : (entText k).length = p.size + 2 := by unfold entText; rw [Lib.size_eq, hpl]; simp
      have HP := Lib.hid (And.intro hpl (And.intro hr hetl))
      clear hp hpl hr hetl
      by_cases hlen : (p.size : Int) + 2 ≤ (s.size : Int)
      · obtain ⟨T, hT⟩ : ∃ T, s.extract 0 (p.size + 2) = T := ⟨_, rfl⟩
        obtain ⟨U, hU⟩ : ∃ U, (⟨#[38]⟩ : ByteArray) ++ p ++ ⟨#[59]⟩ = U := ⟨_, rfl⟩
        have hTl : T.data.toList = s.data.toList.take (p.size + 2) := by rw [← hT, ext_take]
        have hUl : U.data.toList = entText k := by rw [← hU, app_list, app_list, HP.out.1]; simp [entText]
        have HTU := Lib.hid (And.intro hTl hUl)
        clear hTl hUl
        have hw : IntKind.i64.wrap ((p.size : Int) + 2) = (p.size : Int) + 2 := IntWalk.i64_in _ (by omega)
        have v1 : ¬ (9223372036854775807 < 1 + p.size) := by omega
        have v2 : ¬ (9223372036854775807 < 1 + p.size + 1) := by omega
        cases he : (T.toList == U.toList)
        · have HNX := Lib.hid (show ¬ entText k <+: s.data.toList by
            intro hpre
            have h1 := bytes_ne he
            rw [HTU.out.1, HTU.out.2, ← HP.out.2.2] at h1
            exact h1 (take_prefix' hpre))
          go_wp2_with fail
          go_quiet (fail)
          go_wp2_with fail
          go_roundw
          case rel => exact ⟨k + 1, _, by omega, by go_num, rfl, fun j hj => by
            by_cases h : j = k
            · subst h; exact HNX.out
            · exact HNO.out j (by omega)⟩
          case measure => simp [intOf]; omega
        · have HF := Lib.hid (show entAt s.data.toList = ((Utf8.encode r).data.toList, p.size + 2) by
            have h1 := bytes_eq he
            rw [HTU.out.1, HTU.out.2, ← HP.out.2.2] at h1
            obtain ⟨t, ht⟩ := prefix_take h1
            rw [← ht, entAt_name k hlt, Lib.size_eq, HP.out.1]
            unfold entRune
            rw [HP.out.2.1])
          go_wp2_with fail
          go_quiet (fail)
          go_wp2_with fail
          go_ret2
          exact ⟨ent_ret s _ _ _ HF.out (by omega), below_drawn b1 _⟩
      · have HNX := Lib.hid (show ¬ entText k <+: s.data.toList by
          intro hpre
          have := hpre.length_le
          rw [HP.out.2.2, ← Lib.size_eq] at this
          omega)
        have hw : IntKind.i64.wrap ((p.size : Int) + 2) = (p.size : Int) + 2 := IntWalk.i64_in _ (by omega)
        have hg : decide ((p.size : Int) + 2 ≤ (s.size : Int)) = false := decide_eq_false hlen
        go_wp2_with fail
        go_quiet (fail)
        go_wp2_with fail
        go_roundw
        case rel => exact ⟨k + 1, _, by omega, by go_num, rfl, fun j hj => by
          by_cases h : j = k
          · subst h; exact HNX.out
          · exact HNO.out j (by omega)⟩
        case measure => simp [intOf]; omega
    · obtain rfl : k = 23 := by omega
      have hB := below_drawn b1 m
      by_cases h4 : (s.size : Int) < 4
      · have HF := Lib.hid (show entAt s.data.toList = ([], 0) by
          by_cases hp : [38, 35] <+: s.data.toList
          · exact ent_short _ (by rw [← Lib.size_eq]; omega) hp
          · exact entAt_none _ (fun j hj => HNO.out j hj) hp)
        go_wp2_with fail
        go_ret2
        exact ⟨ent_ret s _ _ 0 HF.out rfl, hB⟩
      · obtain ⟨T, hT⟩ : ∃ T, s.extract 0 2 = T := ⟨_, rfl⟩
        have hTl : T.toList = s.data.toList.take 2 := by rw [Lib.toList_data, ← hT, ext_take]
        have HTL := Lib.hid hTl
        clear hTl
        cases he : (T.toList == [38, 35])
        · have HF := Lib.hid (show entAt s.data.toList = ([], 0) by
            refine entAt_none _ (fun j hj => HNO.out j hj) (fun hp => ?_)
            have h1 := take_prefix' hp
            rw [HTL.out] at he
            simp only [List.length_cons, List.length_nil] at h1
            rw [h1] at he
            simp at he)
          go_wp2_with fail
          go_ret2
          exact ⟨ent_ret s _ _ 0 HF.out rfl, hB⟩
        · have hpre : [38, 35] <+: s.data.toList := prefix_take (by rw [HTL.out] at he; exact eq_of_beq he)
          have h2 : 2 < s.size := by omega
          obtain ⟨r, hr⟩ := hpre
          obtain ⟨c, hc⟩ : ∃ c, s[2] = c := ⟨_, rfl⟩
          have hrc : r.head? = some c := by
            have h3 : s.data.toList[2]? = some c := by rw [← hc]; exact Lib.data_getElem? s 2 h2
            rw [← hr] at h3
            cases r with
            | nil => simp at h3
            | cons x xs => simpa using h3
          have HR := Lib.hid (And.intro hr hrc)
          clear hr hrc
          have hcl := c.toNat_lt
          by_cases h120 : c = 120
          · have t1 : ((c.toNat : Int) == 120) = true := by rw [h120]; rfl
            have HD := Lib.hid (show entAt s.data.toList = (if (number 16 6 (s.data.toList.drop 3)).2 = 0 then ([], 0) else ((number 16 6 (s.data.toList.drop 3)).1, 3 + (number 16 6 (s.data.toList.drop 3)).2 + 1)) by
              rw [← HR.out.1]
              show entAt (38 :: 35 :: r) = _
              rw [entAt_sharp, HR.out.2, h120]
              rfl)
            clear h120
            go_wp2_with fail
            have hdl := digLen_le 16 (s.data.toList.drop 3)
            have hDl : (s.data.toList.drop 3).length = s.size - 3 := by simp
            go_loop [9, 12, 13] (fun u9 u12 u13 => ∃ n i v : Nat, n ≤ 6 ∧ i = 3 + n ∧ u9 = .int .i64 i ∧ u13 = .int .i64 n ∧ i ≤ s.size ∧ u12 = .int .i64 v ∧ v = numVal 16 ((s.data.toList.drop 3).take n) ∧ v < 16 ^ n ∧ n ≤ digLen 16 (s.data.toList.drop 3)) (fun u9 _ _ => s.size - (intOf u9).toNat)
            case atStart => exact ⟨0, 3, 0, by omega, rfl, rfl, rfl, by omega, rfl, rfl, by decide, by omega⟩
            case round =>
              obtain ⟨n, i, v, hn, hi, rfl, rfl, his, rfl, hv, hv16, hnd⟩ := hrel
              have hHI := Lib.hid hi
              have HV := Lib.hid hv
              clear hv
              have hp16 : 16 ^ n ≤ 16 ^ 7 := Nat.pow_le_pow_right (by omega) (by omega)
              have hvs : v < 268435456 := by omega
              by_cases hlt : i < s.size
              · have hltI : (i : Int) < (s.size : Int) := by omega
                have hgd := drop_getD s 3 n (by omega)
                obtain ⟨x, hx⟩ : ∃ x, s[i] = x := ⟨_, rfl⟩
                have hgx : (s.data.toList.drop 3).getD n 0 = x := by rw [hgd, ← hx]; congr 1; exact hi.symm
                have HGX := Lib.hid hgx
                have hdg := fun W => rdigit_any x true W
                have hst := digLen_step 16 (s.data.toList.drop 3) n hnd (by rw [hDl]; omega)
                have hsp := digLen_stop 16 (s.data.toList.drop 3) n hnd
                have hns := numVal_step 16 (s.data.toList.drop 3) n (by rw [hDl]; omega)
                rw [hgx] at hst hsp hns
                clear hgx hgd hi
                have hxl := x.toNat_lt
                by_cases hd : isDig 16 x = true
                · have hq : digR true x = (digV x : Int) := by unfold digR baseOf; exact if_pos hd
                  have hq2 : digV x < 16 := by have : digV x < 16 := by simpa [isDig] using hd
                                               omega
                  rw [hq] at hdg
                  have HDG := Lib.hid hdg
                  have HST := Lib.hid (hst hd)
                  have hx59 : x ≠ 59 := by intro e; rw [e] at hd; revert hd; decide
                  have HNS := Lib.hid hns
                  obtain ⟨q, hqq⟩ : ∃ q, digV x = q := ⟨_, rfl⟩
                  rw [hqq] at hq2 HDG HNS
                  clear hdg hst hsp hns hd hq hqq
                  by_cases hm : n < 6
                  · have hmI : (n : Int) < 6 := by omega
                    have m5 : IntKind.i64.wrap ((v : Int) * 16) = (v : Int) * 16 := IntWalk.i64_in _ (by omega)
                    go_wp2_with fail
                    refine (HDG.out _).mono ?_
                    rintro e w' ⟨rfl, rfl⟩
                    go_wp2_with fail
                    refine (HDG.out _).mono ?_
                    rintro e w' ⟨rfl, rfl⟩
                    go_wp2_with fail
                    go_round
                    case rel => exact ⟨n + 1, i + 1, v * 16 + q, by omega, by have := hHI.out; omega, by go_num, by go_num, by omega, by push_cast; rfl, by rw [HNS.out, HV.out], by rw [Nat.pow_succ]; omega, HST.out⟩
                    case measure => simp [intOf]; omega
                  · have hmI : ¬ (n : Int) < 6 := by omega
                    have t9 : ((x.toNat : Int) != 59) = true := by
                      simp only [bne_iff_ne, ne_eq]
                      intro e
                      exact hx59 (UInt8.toNat_inj.1 (by have : (59 : UInt8).toNat = 59 := rfl; omega))
                    have hn0 : ((n : Int) == 0) = false := by simp; omega
                    have HF := Lib.hid (ent_no HD.out (Or.inl (by have := HST.out; omega)))
                    go_wp2_with fail
                    refine (HDG.out _).mono ?_
                    rintro e w' ⟨rfl, rfl⟩
                    go_wp2_with fail
                    go_ret2
                    exact ⟨ent_ret s _ _ 0 HF.out rfl, hB⟩
                · have hq : digR true x = -1 := by unfold digR baseOf; exact if_neg hd
                  rw [hq] at hdg
                  have HDG := Lib.hid hdg
                  have hdn := hsp (by simpa using hd)
                  have HDN := Lib.hid hdn
                  clear hdg hst hsp hns hd hq hdn
                  by_cases hn0 : n = 0
                  · have t0 : ((n : Int) == 0) = true := by simp; exact hn0
                    have HF := Lib.hid (ent_no HD.out (Or.inr (Or.inl (by rw [HDN.out, hn0]))))
                    clear hn0
                    go_wp2_with fail
                    refine (HDG.out _).mono ?_
                    rintro e w' ⟨rfl, rfl⟩
                    go_wp2_with fail
                    go_ret2
                    exact ⟨ent_ret s _ _ 0 HF.out rfl, hB⟩
                  · have t0 : ((n : Int) == 0) = false := by simp; exact hn0
                    by_cases h59 : x = 59
                    · have t9 : ((x.toNat : Int) != 59) = false := by rw [h59]; rfl
                      have HE := Lib.hid (fun (y : ByteArray) (hy : y.data.toList = if v = 0 ∨ Lib.validRune v = false then [239, 191, 189] else (Utf8.encode v).data.toList) => (show entAt s.data.toList = (y.data.toList, 3 + n + 1) by
                        have := ent_yes (x := y) (v := v) HD.out (by rw [HDN.out]; exact hn) (by rw [HDN.out]; exact hn0) (by rw [HDN.out, HGX.out]; exact h59) (by rw [HDN.out]; exact HV.out.symm) hy
                        rw [HDN.out] at this
                        exact this))
                      clear hn0 h59
                      have hv0 : (0 : Int) ≤ (v : Int) := by omega
                      have hcl : (v = 0) ∨ (v ≠ 0 ∧ v < 55296) ∨ (v ≠ 0 ∧ 55296 ≤ v ∧ v ≤ 57343) ∨ (v ≠ 0 ∧ 55296 ≤ v ∧ 57343 < v ∧ v ≤ 1114111) ∨ (v ≠ 0 ∧ 55296 ≤ v ∧ 57343 < v ∧ 1114111 < v) := by omega
                      rcases hcl with h | ⟨h, k1⟩ | ⟨h, k1, k2⟩ | ⟨h, k1, k2, k3⟩ | ⟨h, k1, k2, k3⟩
                      · have t1 : ((v : Int) == 0) = true := by simp; exact h
                        have HF := Lib.hid (HE.out (Utf8.encode 65533) (by rw [if_pos (Or.inl h), bad_rune]))
                        clear h
                        go_wp2_with fail
                        refine (HDG.out _).mono ?_
                        rintro e w' ⟨rfl, rfl⟩
                        go_wp2_with fail
                        go_ret2
                        exact ⟨ent_ret s _ _ _ HF.out (by have := hHI.out; omega), hB⟩
                      · have t1 : ((v : Int) == 0) = false := by simp; exact h
                        have t2 : decide ((55296 : Int) ≤ (v : Int)) = false := by simp; omega
                        have t3 : decide ((1114111 : Int) < (v : Int)) = false := by simp; omega
                        have HF := Lib.hid (HE.out (Utf8.encode (v : Int)) (by rw [if_neg (by rintro (h0 | h0); exact h h0; unfold Lib.validRune at h0; simp at h0; omega)]))
                        have hw32 : IntKind.i32.wrap (v : Int) = (v : Int) := IntWalk.i32_in _ (by omega)
                        clear h k1
                        go_wp2_with fail
                        refine (HDG.out _).mono ?_
                        rintro e w' ⟨rfl, rfl⟩
                        go_wp2_with fail
                        go_ret2
                        exact ⟨ent_ret s _ _ _ HF.out (by have := hHI.out; omega), hB⟩
                      · have t1 : ((v : Int) == 0) = false := by simp; exact h
                        have t2 : (55296 : Int) ≤ (v : Int) := by omega
                        have t3 : (v : Int) ≤ 57343 := by omega
                        have HF := Lib.hid (HE.out (Utf8.encode 65533) (by rw [if_pos (Or.inr (by unfold Lib.validRune; simp; omega)), bad_rune]))
                        clear h
                        go_wp2_with fail
                        refine (HDG.out _).mono ?_
                        rintro e w' ⟨rfl, rfl⟩
                        go_wp2_with fail
                        go_ret2
                        exact ⟨ent_ret s _ _ _ HF.out (by have := hHI.out; omega), hB⟩
                      · have t1 : ((v : Int) == 0) = false := by simp; exact h
                        have t2 : (55296 : Int) ≤ (v : Int) := by omega
                        have t3 : ¬ (v : Int) ≤ 57343 := by omega
                        have t4 : ¬ (1114111 : Int) < (v : Int) := by omega
                        have HF := Lib.hid (HE.out (Utf8.encode (v : Int)) (by rw [if_neg (by rintro (h0 | h0); exact h h0; unfold Lib.validRune at h0; simp at h0; omega)]))
                        have hw32 : IntKind.i32.wrap (v : Int) = (v : Int) := IntWalk.i32_in _ (by omega)
                        clear h
                        go_wp2_with fail
                        refine (HDG.out _).mono ?_
                        rintro e w' ⟨rfl, rfl⟩
                        go_wp2_with fail
                        go_ret2
                        exact ⟨ent_ret s _ _ _ HF.out (by have := hHI.out; omega), hB⟩
                      · have t1 : ((v : Int) == 0) = false := by simp; exact h
                        have t2 : (55296 : Int) ≤ (v : Int) := by omega
                        have t3 : ¬ (v : Int) ≤ 57343 := by omega
                        have t4 : (1114111 : Int) < (v : Int) := by omega
                        have HF := Lib.hid (HE.out (Utf8.encode 65533) (by rw [if_pos (Or.inr (by unfold Lib.validRune; simp; omega)), bad_rune]))
                        clear h
                        go_wp2_with fail
                        refine (HDG.out _).mono ?_
                        rintro e w' ⟨rfl, rfl⟩
                        go_wp2_with fail
                        go_ret2
                        exact ⟨ent_ret s _ _ _ HF.out (by have := hHI.out; omega), hB⟩
                    · have t9 : ((x.toNat : Int) != 59) = true := by
                        simp only [bne_iff_ne, ne_eq]
                        intro e
                        exact h59 (UInt8.toNat_inj.1 (by have : (59 : UInt8).toNat = 59 := rfl; omega))
                      have HF := Lib.hid (ent_no HD.out (Or.inr (Or.inr (by rw [HDN.out, HGX.out]; exact h59))))
                      clear hn0 h59
                      go_wp2_with fail
                      refine (HDG.out _).mono ?_
                      rintro e w' ⟨rfl, rfl⟩
                      go_wp2_with fail
                      go_ret2
                      exact ⟨ent_ret s _ _ 0 HF.out rfl, hB⟩
              · obtain rfl : i = s.size := by omega
                have hdn : digLen 16 (s.data.toList.drop 3) = n := by omega
                have HF := Lib.hid (ent_no HD.out (Or.inr (Or.inr (by rw [hdn, List.getD_eq_getElem?_getD, List.getElem?_eq_none (by rw [hDl]; omega)]; decide))))
                by_cases hn0 : n = 0
                · have t0 : ((n : Int) == 0) = true := by simp; exact hn0
                  clear hn0 hdn hHI hi
                  go_wp2_with fail
                  go_ret2
                  exact ⟨ent_ret s _ _ 0 HF.out rfl, hB⟩
                · have t0 : ((n : Int) == 0) = false := by simp; exact hn0
                  clear hn0 hdn hHI hi
                  go_wp2_with fail
                  go_ret2
                  exact ⟨ent_ret s _ _ 0 HF.out rfl, hB⟩
          · have t1 : ((c.toNat : Int) == 120) = false := by rw [show (120 : Int) = ((120 : Nat) : Int) from rfl, byte_dec c 120 (by decide)]; simpa using h120
            by_cases h88 : c = 88
            · have t2 : ((c.toNat : Int) == 88) = true := by rw [h88]; rfl
              have HD := Lib.hid (show entAt s.data.toList = (if (number 16 6 (s.data.toList.drop 3)).2 = 0 then ([], 0) else ((number 16 6 (s.data.toList.drop 3)).1, 3 + (number 16 6 (s.data.toList.drop 3)).2 + 1)) by
                rw [← HR.out.1]
                show entAt (38 :: 35 :: r) = _
                rw [entAt_sharp, HR.out.2, h88]
                rfl)
              clear h88 h120
              go_wp2_with fail
              have hdl := digLen_le 16 (s.data.toList.drop 3)
              have hDl : (s.data.toList.drop 3).length = s.size - 3 := by simp
              go_loop [9, 12, 13] (fun u9 u12 u13 => ∃ n i v : Nat, n ≤ 6 ∧ i = 3 + n ∧ u9 = .int .i64 i ∧ u13 = .int .i64 n ∧ i ≤ s.size ∧ u12 = .int .i64 v ∧ v = numVal 16 ((s.data.toList.drop 3).take n) ∧ v < 16 ^ n ∧ n ≤ digLen 16 (s.data.toList.drop 3)) (fun u9 _ _ => s.size - (intOf u9).toNat)
              case atStart => exact ⟨0, 3, 0, by omega, rfl, rfl, rfl, by omega, rfl, rfl, by decide, by omega⟩
              case round =>
                obtain ⟨n, i, v, hn, hi, rfl, rfl, his, rfl, hv, hv16, hnd⟩ := hrel
                have hHI := Lib.hid hi
                have HV := Lib.hid hv
                clear hv
                have hp16 : 16 ^ n ≤ 16 ^ 7 := Nat.pow_le_pow_right (by omega) (by omega)
                have hvs : v < 268435456 := by omega
                by_cases hlt : i < s.size
                · have hltI : (i : Int) < (s.size : Int) := by omega
                  have hgd := drop_getD s 3 n (by omega)
                  obtain ⟨x, hx⟩ : ∃ x, s[i] = x := ⟨_, rfl⟩
                  have hgx : (s.data.toList.drop 3).getD n 0 = x := by rw [hgd, ← hx]; congr 1; exact hi.symm
                  have HGX := Lib.hid hgx
                  have hdg := fun W => rdigit_any x true W
                  have hst := digLen_step 16 (s.data.toList.drop 3) n hnd (by rw [hDl]; omega)
                  have hsp := digLen_stop 16 (s.data.toList.drop 3) n hnd
                  have hns := numVal_step 16 (s.data.toList.drop 3) n (by rw [hDl]; omega)
                  rw [hgx] at hst hsp hns
                  clear hgx hgd hi
                  have hxl := x.toNat_lt
                  by_cases hd : isDig 16 x = true
                  · have hq : digR true x = (digV x : Int) := by unfold digR baseOf; exact if_pos hd
                    have hq2 : digV x < 16 := by have : digV x < 16 := by simpa [isDig] using hd
                                                 omega
                    rw [hq] at hdg
                    have HDG := Lib.hid hdg
                    have HST := Lib.hid (hst hd)
                    have hx59 : x ≠ 59 := by intro e; rw [e] at hd; revert hd; decide
                    have HNS := Lib.hid hns
                    obtain ⟨q, hqq⟩ : ∃ q, digV x = q := ⟨_, rfl⟩
                    rw [hqq] at hq2 HDG HNS
                    clear hdg hst hsp hns hd hq hqq
                    by_cases hm : n < 6
                    · have hmI : (n : Int) < 6 := by omega
                      have m5 : IntKind.i64.wrap ((v : Int) * 16) = (v : Int) * 16 := IntWalk.i64_in _ (by omega)
                      go_wp2_with fail
                      refine (HDG.out _).mono ?_
                      rintro e w' ⟨rfl, rfl⟩
                      go_wp2_with fail
                      refine (HDG.out _).mono ?_
                      rintro e w' ⟨rfl, rfl⟩
                      go_wp2_with fail
                      go_round
                      case rel => exact ⟨n + 1, i + 1, v * 16 + q, by omega, by have := hHI.out; omega, by go_num, by go_num, by omega, by push_cast; rfl, by rw [HNS.out, HV.out], by rw [Nat.pow_succ]; omega, HST.out⟩
                      case measure => simp [intOf]; omega
                    · have hmI : ¬ (n : Int) < 6 := by omega
                      have t9 : ((x.toNat : Int) != 59) = true := by
                        simp only [bne_iff_ne, ne_eq]
                        intro e
                        exact hx59 (UInt8.toNat_inj.1 (by have : (59 : UInt8).toNat = 59 := rfl; omega))
                      have hn0 : ((n : Int) == 0) = false := by simp; omega
                      have HF := Lib.hid (ent_no HD.out (Or.inl (by have := HST.out; omega)))
                      go_wp2_with fail
                      refine (HDG.out _).mono ?_
                      rintro e w' ⟨rfl, rfl⟩
                      go_wp2_with fail
                      go_ret2
                      exact ⟨ent_ret s _ _ 0 HF.out rfl, hB⟩
                  · have hq : digR true x = -1 := by unfold digR baseOf; exact if_neg hd
                    rw [hq] at hdg
                    have HDG := Lib.hid hdg
                    have hdn := hsp (by simpa using hd)
                    have HDN := Lib.hid hdn
                    clear hdg hst hsp hns hd hq hdn
                    by_cases hn0 : n = 0
                    · have t0 : ((n : Int) == 0) = true := by simp; exact hn0
                      have HF := Lib.hid (ent_no HD.out (Or.inr (Or.inl (by rw [HDN.out, hn0]))))
                      clear hn0
                      go_wp2_with fail
                      refine (HDG.out _).mono ?_
                      rintro e w' ⟨rfl, rfl⟩
                      go_wp2_with fail
                      go_ret2
                      exact ⟨ent_ret s _ _ 0 HF.out rfl, hB⟩
                    · have t0 : ((n : Int) == 0) = false := by simp; exact hn0
                      by_cases h59 : x = 59
                      · have t9 : ((x.toNat : Int) != 59) = false := by rw [h59]; rfl
                        have HE := Lib.hid (fun (y : ByteArray) (hy : y.data.toList = if v = 0 ∨ Lib.validRune v = false then [239, 191, 189] else (Utf8.encode v).data.toList) => (show entAt s.data.toList = (y.data.toList, 3 + n + 1) by
                          have := ent_yes (x := y) (v := v) HD.out (by rw [HDN.out]; exact hn) (by rw [HDN.out]; exact hn0) (by rw [HDN.out, HGX.out]; exact h59) (by rw [HDN.out]; exact HV.out.symm) hy
                          rw [HDN.out] at this
                          exact this))
                        clear hn0 h59
                        have hv0 : (0 : Int) ≤ (v : Int) := by omega
                        have hcl : (v = 0) ∨ (v ≠ 0 ∧ v < 55296) ∨ (v ≠ 0 ∧ 55296 ≤ v ∧ v ≤ 57343) ∨ (v ≠ 0 ∧ 55296 ≤ v ∧ 57343 < v ∧ v ≤ 1114111) ∨ (v ≠ 0 ∧ 55296 ≤ v ∧ 57343 < v ∧ 1114111 < v) := by omega
                        rcases hcl with h | ⟨h, k1⟩ | ⟨h, k1, k2⟩ | ⟨h, k1, k2, k3⟩ | ⟨h, k1, k2, k3⟩
                        · have t1 : ((v : Int) == 0) = true := by simp; exact h
                          have HF := Lib.hid (HE.out (Utf8.encode 65533) (by rw [if_pos (Or.inl h), bad_rune]))
                          clear h
                          go_wp2_with fail
                          refine (HDG.out _).mono ?_
                          rintro e w' ⟨rfl, rfl⟩
                          go_wp2_with fail
                          go_ret2
                          exact ⟨ent_ret s _ _ _ HF.out (by have := hHI.out; omega), hB⟩
                        · have t1 : ((v : Int) == 0) = false := by simp; exact h
                          have t2 : decide ((55296 : Int) ≤ (v : Int)) = false := by simp; omega
                          have t3 : decide ((1114111 : Int) < (v : Int)) = false := by simp; omega
                          have HF := Lib.hid (HE.out (Utf8.encode (v : Int)) (by rw [if_neg (by rintro (h0 | h0); exact h h0; unfold Lib.validRune at h0; simp at h0; omega)]))
                          have hw32 : IntKind.i32.wrap (v : Int) = (v : Int) := IntWalk.i32_in _ (by omega)
                          clear h k1
                          go_wp2_with fail
                          refine (HDG.out _).mono ?_
                          rintro e w' ⟨rfl, rfl⟩
                          go_wp2_with fail
                          go_ret2
                          exact ⟨ent_ret s _ _ _ HF.out (by have := hHI.out; omega), hB⟩
                        · have t1 : ((v : Int) == 0) = false := by simp; exact h
                          have t2 : (55296 : Int) ≤ (v : Int) := by omega
                          have t3 : (v : Int) ≤ 57343 := by omega
                          have HF := Lib.hid (HE.out (Utf8.encode 65533) (by rw [if_pos (Or.inr (by unfold Lib.validRune; simp; omega)), bad_rune]))
                          clear h
                          go_wp2_with fail
                          refine (HDG.out _).mono ?_
                          rintro e w' ⟨rfl, rfl⟩
                          go_wp2_with fail
                          go_ret2
                          exact ⟨ent_ret s _ _ _ HF.out (by have := hHI.out; omega), hB⟩
                        · have t1 : ((v : Int) == 0) = false := by simp; exact h
                          have t2 : (55296 : Int) ≤ (v : Int) := by omega
                          have t3 : ¬ (v : Int) ≤ 57343 := by omega
                          have t4 : ¬ (1114111 : Int) < (v : Int) := by omega
                          have HF := Lib.hid (HE.out (Utf8.encode (v : Int)) (by rw [if_neg (by rintro (h0 | h0); exact h h0; unfold Lib.validRune at h0; simp at h0; omega)]))
                          have hw32 : IntKind.i32.wrap (v : Int) = (v : Int) := IntWalk.i32_in _ (by omega)
                          clear h
                          go_wp2_with fail
                          refine (HDG.out _).mono ?_
                          rintro e w' ⟨rfl, rfl⟩
                          go_wp2_with fail
                          go_ret2
                          exact ⟨ent_ret s _ _ _ HF.out (by have := hHI.out; omega), hB⟩
                        · have t1 : ((v : Int) == 0) = false := by simp; exact h
                          have t2 : (55296 : Int) ≤ (v : Int) := by omega
                          have t3 : ¬ (v : Int) ≤ 57343 := by omega
                          have t4 : (1114111 : Int) < (v : Int) := by omega
                          have HF := Lib.hid (HE.out (Utf8.encode 65533) (by rw [if_pos (Or.inr (by unfold Lib.validRune; simp; omega)), bad_rune]))
                          clear h
                          go_wp2_with fail
                          refine (HDG.out _).mono ?_
                          rintro e w' ⟨rfl, rfl⟩
                          go_wp2_with fail
                          go_ret2
                          exact ⟨ent_ret s _ _ _ HF.out (by have := hHI.out; omega), hB⟩
                      · have t9 : ((x.toNat : Int) != 59) = true := by
                          simp only [bne_iff_ne, ne_eq]
                          intro e
                          exact h59 (UInt8.toNat_inj.1 (by have : (59 : UInt8).toNat = 59 := rfl; omega))
                        have HF := Lib.hid (ent_no HD.out (Or.inr (Or.inr (by rw [HDN.out, HGX.out]; exact h59))))
                        clear hn0 h59
                        go_wp2_with fail
                        refine (HDG.out _).mono ?_
                        rintro e w' ⟨rfl, rfl⟩
                        go_wp2_with fail
                        go_ret2
                        exact ⟨ent_ret s _ _ 0 HF.out rfl, hB⟩
                · obtain rfl : i = s.size := by omega
                  have hdn : digLen 16 (s.data.toList.drop 3) = n := by omega
                  have HF := Lib.hid (ent_no HD.out (Or.inr (Or.inr (by rw [hdn, List.getD_eq_getElem?_getD, List.getElem?_eq_none (by rw [hDl]; omega)]; decide))))
                  by_cases hn0 : n = 0
                  · have t0 : ((n : Int) == 0) = true := by simp; exact hn0
                    clear hn0 hdn hHI hi
                    go_wp2_with fail
                    go_ret2
                    exact ⟨ent_ret s _ _ 0 HF.out rfl, hB⟩
                  · have t0 : ((n : Int) == 0) = false := by simp; exact hn0
                    clear hn0 hdn hHI hi
                    go_wp2_with fail
                    go_ret2
                    exact ⟨ent_ret s _ _ 0 HF.out rfl, hB⟩
            · have t2 : ((c.toNat : Int) == 88) = false := by rw [show (88 : Int) = ((88 : Nat) : Int) from rfl, byte_dec c 88 (by decide)]; simpa using h88
              have HD := Lib.hid (show entAt s.data.toList = (if (number 10 7 (s.data.toList.drop 2)).2 = 0 then ([], 0) else ((number 10 7 (s.data.toList.drop 2)).1, 2 + (number 10 7 (s.data.toList.drop 2)).2 + 1)) by
                rw [← HR.out.1]
                show entAt (38 :: 35 :: r) = _
                have hno2 : ¬ (some c = some 120 ∨ some c = some 88) := by simp [h120, h88]
                rw [entAt_sharp, HR.out.2]
                simp only [if_neg hno2]
                rfl)
              clear h88 h120
              go_wp2_with fail
              have hdl := digLen_le 10 (s.data.toList.drop 2)
              have hDl : (s.data.toList.drop 2).length = s.size - 2 := by simp
              go_loop [9, 12, 13] (fun u9 u12 u13 => ∃ n i v : Nat, n ≤ 7 ∧ i = 2 + n ∧ u9 = .int .i64 i ∧ u13 = .int .i64 n ∧ i ≤ s.size ∧ u12 = .int .i64 v ∧ v = numVal 10 ((s.data.toList.drop 2).take n) ∧ v < 16 ^ n ∧ n ≤ digLen 10 (s.data.toList.drop 2)) (fun u9 _ _ => s.size - (intOf u9).toNat)
              case atStart => exact ⟨0, 2, 0, by omega, rfl, rfl, rfl, by omega, rfl, rfl, by decide, by omega⟩
              case round =>
                obtain ⟨n, i, v, hn, hi, rfl, rfl, his, rfl, hv, hv16, hnd⟩ := hrel
                have hHI := Lib.hid hi
                have HV := Lib.hid hv
                clear hv
                have hp16 : 16 ^ n ≤ 16 ^ 7 := Nat.pow_le_pow_right (by omega) (by omega)
                have hvs : v < 268435456 := by omega
                by_cases hlt : i < s.size
                · have hltI : (i : Int) < (s.size : Int) := by omega
                  have hgd := drop_getD s 2 n (by omega)
                  obtain ⟨x, hx⟩ : ∃ x, s[i] = x := ⟨_, rfl⟩
                  have hgx : (s.data.toList.drop 2).getD n 0 = x := by rw [hgd, ← hx]; congr 1; exact hi.symm
                  have HGX := Lib.hid hgx
                  have hdg := fun W => rdigit_any x false W
                  have hst := digLen_step 10 (s.data.toList.drop 2) n hnd (by rw [hDl]; omega)
                  have hsp := digLen_stop 10 (s.data.toList.drop 2) n hnd
                  have hns := numVal_step 10 (s.data.toList.drop 2) n (by rw [hDl]; omega)
                  rw [hgx] at hst hsp hns
                  clear hgx hgd hi
                  have hxl := x.toNat_lt
                  by_cases hd : isDig 10 x = true
                  · have hq : digR false x = (digV x : Int) := by unfold digR baseOf; exact if_pos hd
                    have hq2 : digV x < 16 := by have : digV x < 10 := by simpa [isDig] using hd
                                                 omega
                    rw [hq] at hdg
                    have HDG := Lib.hid hdg
                    have HST := Lib.hid (hst hd)
                    have hx59 : x ≠ 59 := by intro e; rw [e] at hd; revert hd; decide
                    have HNS := Lib.hid hns
                    obtain ⟨q, hqq⟩ : ∃ q, digV x = q := ⟨_, rfl⟩
                    rw [hqq] at hq2 HDG HNS
                    clear hdg hst hsp hns hd hq hqq
                    by_cases hm : n < 7
                    · have hmI : (n : Int) < 7 := by omega
                      have m5 : IntKind.i64.wrap ((v : Int) * 10) = (v : Int) * 10 := IntWalk.i64_in _ (by omega)
                      go_wp2_with fail
                      refine (HDG.out _).mono ?_
                      rintro e w' ⟨rfl, rfl⟩
                      go_wp2_with fail
                      refine (HDG.out _).mono ?_
                      rintro e w' ⟨rfl, rfl⟩
                      go_wp2_with fail
                      go_round
                      case rel => exact ⟨n + 1, i + 1, v * 10 + q, by omega, by have := hHI.out; omega, by go_num, by go_num, by omega, by push_cast; rfl, by rw [HNS.out, HV.out], by rw [Nat.pow_succ]; omega, HST.out⟩
                      case measure => simp [intOf]; omega
                    · have hmI : ¬ (n : Int) < 7 := by omega
                      have t9 : ((x.toNat : Int) != 59) = true := by
                        simp only [bne_iff_ne, ne_eq]
                        intro e
                        exact hx59 (UInt8.toNat_inj.1 (by have : (59 : UInt8).toNat = 59 := rfl; omega))
                      have hn0 : ((n : Int) == 0) = false := by simp; omega
                      have HF := Lib.hid (ent_no HD.out (Or.inl (by have := HST.out; omega)))
                      go_wp2_with fail
                      refine (HDG.out _).mono ?_
                      rintro e w' ⟨rfl, rfl⟩
                      go_wp2_with fail
                      go_ret2
                      exact ⟨ent_ret s _ _ 0 HF.out rfl, hB⟩
                  · have hq : digR false x = -1 := by unfold digR baseOf; exact if_neg hd
                    rw [hq] at hdg
                    have HDG := Lib.hid hdg
                    have hdn := hsp (by simpa using hd)
                    have HDN := Lib.hid hdn
                    clear hdg hst hsp hns hd hq hdn
                    by_cases hn0 : n = 0
                    · have t0 : ((n : Int) == 0) = true := by simp; exact hn0
                      have HF := Lib.hid (ent_no HD.out (Or.inr (Or.inl (by rw [HDN.out, hn0]))))
                      clear hn0
                      go_wp2_with fail
                      refine (HDG.out _).mono ?_
                      rintro e w' ⟨rfl, rfl⟩
                      go_wp2_with fail
                      go_ret2
                      exact ⟨ent_ret s _ _ 0 HF.out rfl, hB⟩
                    · have t0 : ((n : Int) == 0) = false := by simp; exact hn0
                      by_cases h59 : x = 59
                      · have t9 : ((x.toNat : Int) != 59) = false := by rw [h59]; rfl
                        have HE := Lib.hid (fun (y : ByteArray) (hy : y.data.toList = if v = 0 ∨ Lib.validRune v = false then [239, 191, 189] else (Utf8.encode v).data.toList) => (show entAt s.data.toList = (y.data.toList, 2 + n + 1) by
                          have := ent_yes (x := y) (v := v) HD.out (by rw [HDN.out]; exact hn) (by rw [HDN.out]; exact hn0) (by rw [HDN.out, HGX.out]; exact h59) (by rw [HDN.out]; exact HV.out.symm) hy
                          rw [HDN.out] at this
                          exact this))
                        clear hn0 h59
                        have hv0 : (0 : Int) ≤ (v : Int) := by omega
                        have hcl : (v = 0) ∨ (v ≠ 0 ∧ v < 55296) ∨ (v ≠ 0 ∧ 55296 ≤ v ∧ v ≤ 57343) ∨ (v ≠ 0 ∧ 55296 ≤ v ∧ 57343 < v ∧ v ≤ 1114111) ∨ (v ≠ 0 ∧ 55296 ≤ v ∧ 57343 < v ∧ 1114111 < v) := by omega
                        rcases hcl with h | ⟨h, k1⟩ | ⟨h, k1, k2⟩ | ⟨h, k1, k2, k3⟩ | ⟨h, k1, k2, k3⟩
                        · have t1 : ((v : Int) == 0) = true := by simp; exact h
                          have HF := Lib.hid (HE.out (Utf8.encode 65533) (by rw [if_pos (Or.inl h), bad_rune]))
                          clear h
                          go_wp2_with fail
                          refine (HDG.out _).mono ?_
                          rintro e w' ⟨rfl, rfl⟩
                          go_wp2_with fail
                          go_ret2
                          exact ⟨ent_ret s _ _ _ HF.out (by have := hHI.out; omega), hB⟩
                        · have t1 : ((v : Int) == 0) = false := by simp; exact h
                          have t2 : decide ((55296 : Int) ≤ (v : Int)) = false := by simp; omega
                          have t3 : decide ((1114111 : Int) < (v : Int)) = false := by simp; omega
                          have HF := Lib.hid (HE.out (Utf8.encode (v : Int)) (by rw [if_neg (by rintro (h0 | h0); exact h h0; unfold Lib.validRune at h0; simp at h0; omega)]))
                          have hw32 : IntKind.i32.wrap (v : Int) = (v : Int) := IntWalk.i32_in _ (by omega)
                          clear h k1
                          go_wp2_with fail
                          refine (HDG.out _).mono ?_
                          rintro e w' ⟨rfl, rfl⟩
                          go_wp2_with fail
                          go_ret2
                          exact ⟨ent_ret s _ _ _ HF.out (by have := hHI.out; omega), hB⟩
                        · have t1 : ((v : Int) == 0) = false := by simp; exact h
                          have t2 : (55296 : Int) ≤ (v : Int) := by omega
                          have t3 : (v : Int) ≤ 57343 := by omega
                          have HF := Lib.hid (HE.out (Utf8.encode 65533) (by rw [if_pos (Or.inr (by unfold Lib.validRune; simp; omega)), bad_rune]))
                          clear h
                          go_wp2_with fail
                          refine (HDG.out _).mono ?_
                          rintro e w' ⟨rfl, rfl⟩
                          go_wp2_with fail
                          go_ret2
                          exact ⟨ent_ret s _ _ _ HF.out (by have := hHI.out; omega), hB⟩
                        · have t1 : ((v : Int) == 0) = false := by simp; exact h
                          have t2 : (55296 : Int) ≤ (v : Int) := by omega
                          have t3 : ¬ (v : Int) ≤ 57343 := by omega
                          have t4 : ¬ (1114111 : Int) < (v : Int) := by omega
                          have HF := Lib.hid (HE.out (Utf8.encode (v : Int)) (by rw [if_neg (by rintro (h0 | h0); exact h h0; unfold Lib.validRune at h0; simp at h0; omega)]))
                          have hw32 : IntKind.i32.wrap (v : Int) = (v : Int) := IntWalk.i32_in _ (by omega)
                          clear h
                          go_wp2_with fail
                          refine (HDG.out _).mono ?_
                          rintro e w' ⟨rfl, rfl⟩
                          go_wp2_with fail
                          go_ret2
                          exact ⟨ent_ret s _ _ _ HF.out (by have := hHI.out; omega), hB⟩
                        · have t1 : ((v : Int) == 0) = false := by simp; exact h
                          have t2 : (55296 : Int) ≤ (v : Int) := by omega
                          have t3 : ¬ (v : Int) ≤ 57343 := by omega
                          have t4 : (1114111 : Int) < (v : Int) := by omega
                          have HF := Lib.hid (HE.out (Utf8.encode 65533) (by rw [if_pos (Or.inr (by unfold Lib.validRune; simp; omega)), bad_rune]))
                          clear h
                          go_wp2_with fail
                          refine (HDG.out _).mono ?_
                          rintro e w' ⟨rfl, rfl⟩
                          go_wp2_with fail
                          go_ret2
                          exact ⟨ent_ret s _ _ _ HF.out (by have := hHI.out; omega), hB⟩
                      · have t9 : ((x.toNat : Int) != 59) = true := by
                          simp only [bne_iff_ne, ne_eq]
                          intro e
                          exact h59 (UInt8.toNat_inj.1 (by have : (59 : UInt8).toNat = 59 := rfl; omega))
                        have HF := Lib.hid (ent_no HD.out (Or.inr (Or.inr (by rw [HDN.out, HGX.out]; exact h59))))
                        clear hn0 h59
                        go_wp2_with fail
                        refine (HDG.out _).mono ?_
                        rintro e w' ⟨rfl, rfl⟩
                        go_wp2_with fail
                        go_ret2
                        exact ⟨ent_ret s _ _ 0 HF.out rfl, hB⟩
                · obtain rfl : i = s.size := by omega
                  have hdn : digLen 10 (s.data.toList.drop 2) = n := by omega
                  have HF := Lib.hid (ent_no HD.out (Or.inr (Or.inr (by rw [hdn, List.getD_eq_getElem?_getD, List.getElem?_eq_none (by rw [hDl]; omega)]; decide))))
                  by_cases hn0 : n = 0
                  · have t0 : ((n : Int) == 0) = true := by simp; exact hn0
                    clear hn0 hdn hHI hi
                    go_wp2_with fail
                    go_ret2
                    exact ⟨ent_ret s _ _ 0 HF.out rfl, hB⟩
                  · have t0 : ((n : Int) == 0) = false := by simp; exact hn0
                    clear hn0 hdn hHI hi
                    go_wp2_with fail
                    go_ret2
                    exact ⟨ent_ret s _ _ 0 HF.out rfl, hB⟩

end Go.Proofs.YtnlmfoccdmkncaaGreatDoor
