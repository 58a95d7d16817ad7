/-
  TokenCodes: what stands between as many backquotes is code, whatever it is; LFs are blanks in it: the walk of the law.
-/
import Derived.Test.YtmllkffdejojbaaDoorLawEnts
import Derived.Test.YtmllkffdejojbaaDoorOneByte
namespace Go.Proofs.YtmllkffdejojbaaDoor
open Go.RowKit
set_option maxRecDepth 100000
set_option linter.unusedVariables false
set_option linter.unusedSimpArgs false

theorem tok_code (X : ByteArray) (W : World) : Calls Tryd.prog 35 #[.iface 89 (.string X)] W fun e w' => e = .returned (.agg #[.int .u8 99, .string X, .string ⟨#[]⟩, .int .i64 0]) ∧ Below W.heap.size W w' := by
  have := tok_tok (.code X.data.toList) W
  simp only [Tok.val, Tok.plain, TokP.val, Lib.mk_data] at this
  exact this

/-- No backquote. -/
def NoQuote (l : List UInt8) : Prop := (96 : UInt8) ∉ l
theorem noQuote_take {l : List UInt8} {k : Nat} {c : UInt8} (h : NoQuote (l.take k)) (hk : l[k]? = some c) (hc : c ≠ 96) : NoQuote (l.take (k + 1)) := by
  obtain ⟨hlt, he⟩ := List.getElem?_eq_some_iff.1 hk
  unfold NoQuote at h ⊢
  rw [List.take_succ_eq_append_getElem hlt, he]
  intro hm
  rcases List.mem_append.1 hm with e | e
  · exact h e
  · exact hc (List.mem_singleton.1 e).symm
/-- All are blanks. -/
def allBl (l : List UInt8) : Bool := l.all fun c => c == 32
theorem lf_take (l : List UInt8) (k : Nat) (d : UInt8) (hk : l[k]? = some d) : lfBlank (l.take (k + 1)) = lfBlank (l.take k) ++ [if d = 10 then 32 else d] := by
  obtain ⟨hlt, he⟩ := List.getElem?_eq_some_iff.1 hk
  rw [List.take_succ_eq_append_getElem hlt, he]
  unfold lfBlank
  rw [List.map_append]
  rfl
theorem allBl_take (l : List UInt8) (k : Nat) (d : UInt8) (hk : l[k]? = some d) : allBl (lfBlank (l.take (k + 1))) = (allBl (lfBlank (l.take k)) && ((if d = 10 then 32 else d) == 32)) := by
  rw [lf_take l k d hk]
  unfold allBl
  rw [List.all_append]
  simp
theorem any_of_all (l : List UInt8) : (l.any fun c => c != 32) = !allBl l := by
  unfold allBl
  induction l with
  | nil => rfl
  | cons c l ih =>
    rw [List.any_cons, List.all_cons, ih, Bool.not_and]
    rfl
theorem code_all {t : List UInt8} (h : allBl (lfBlank t) = true) : codeText t = lfBlank t := by
  unfold codeText
  rw [if_neg (by rw [any_of_all, h]; simp)]
theorem code_head_no {t : List UInt8} (h : (lfBlank t).head? ≠ some 32) : codeText t = lfBlank t := by
  unfold codeText
  rw [if_neg (by rintro ⟨e, _⟩; exact h e)]
theorem code_last_no {t : List UInt8} (h : (lfBlank t).getLast? ≠ some 32) : codeText t = lfBlank t := by
  unfold codeText
  rw [if_neg (by rintro ⟨_, e, _⟩; exact h e)]
theorem code_strip {t : List UInt8} (h1 : (lfBlank t).head? = some 32) (h2 : (lfBlank t).getLast? = some 32) (h3 : allBl (lfBlank t) = false) : codeText t = (lfBlank t).tail.dropLast := by
  unfold codeText
  rw [if_pos ⟨h1, h2, by rw [any_of_all, h3]; rfl⟩]
theorem ba_head (X : ByteArray) (h : 0 < X.size) : X.data.toList.head? = some (X[0]'h) := by
  have := Lib.data_getElem? X 0 h
  rw [← this, List.head?_eq_getElem?]
theorem ba_last (X : ByteArray) (h : X.size - 1 < X.size) : X.data.toList.getLast? = some (X[X.size - 1]'h) := by
  have := Lib.data_getElem? X (X.size - 1) h
  rw [← this, List.getLast?_eq_getElem?, Lib.size_eq]

set_option maxHeartbeats 8000000 in
theorem law_codes (p : Int) (t : ByteArray) (hp : (Lit.int .i64 p).wf = true) (w : World) (hE : Env w) :
    Calls Tryd.prog 14 #[.int .i64 p, .string t] w fun e w' => e = .returned (.bool true) ∧ Below w.heap.size w w' := by
  by_cases hr : (1 ≤ p ∧ p ≤ 6) ∧ 0 < t.size ∧ t.size ≤ 60
  · obtain ⟨⟨h1, h2⟩, h3, h4⟩ := hr
    obtain ⟨n, rfl⟩ : ∃ n : Nat, p = n := ⟨p.toNat, by omega⟩
    have t1 : ¬ (n : Int) < 1 := by omega
    have t2 : ¬ (6 : Int) < (n : Int) := by omega
    have t3 := empty_no h3
    have t4 : ¬ (60 : Int) < (t.size : Int) := by omega
    have HE := Lib.hid hE
    clear hE hp
    go_enter Tryd.func14, Tryd.ntmps14
    go_wp2_with fail
    refine (alive12 _ HE.out).mono ?_
    rintro e w1 ⟨rfl, b1⟩
    go_wp2_with fail
    go_loop [5] (fun u5 => ∃ i : Nat, i ≤ t.size ∧ u5 = .int .i64 i ∧ NoQuote (t.data.toList.take i)) (fun u5 => t.size - (intOf u5).toNat)
    case atStart => exact ⟨0, Nat.zero_le _, rfl, by unfold NoQuote; simp⟩
    case round =>
      obtain ⟨i, hi, rfl, hl⟩ := hrel
      have HL := Lib.hid hl
      clear hl
      by_cases hlt : i < t.size
      · have hg := Lib.data_getElem? t i hlt
        obtain ⟨d, hd⟩ : ∃ d, t[i] = d := ⟨_, rfl⟩
        rw [hd] at hg
        have HG := Lib.hid hg
        clear hg
        by_cases q1 : d = 96
        · subst q1
          go_wp2_with fail
          go_ret
          exact ⟨rfl, b1⟩
        · have q1' : ((d.toNat : Int) == 96) = false := by
            rw [beq_eq_false_iff_ne]; intro e; exact q1 (byte_eq (n := 96) (by omega))
          have HN := Lib.hid (noQuote_take HL.out HG.out q1)
          go_wp2_with fail
          go_round
          case rel => exact ⟨i + 1, by omega, by go_num, HN.out⟩
          case measure => simp [intOf]; omega
      · obtain rfl : i = t.size := by omega
        have hnq : NoQuote t.data.toList := by have := HL.out; rwa [take_all] at this
        have HNQ := Lib.hid hnq
        clear hnq HL
        go_wp2_with fail
        go_loop [6, 7] (fun u6 u7 => ∃ (k : Nat) (Q : ByteArray), k ≤ n ∧ u7 = .int .i64 k ∧ u6 = .string Q ∧ Q.data.toList = List.replicate k 96 ∧ Q.size ≤ k) (fun _ u7 => n - (intOf u7).toNat)
        case atStart => exact ⟨0, ⟨#[]⟩, by omega, rfl, rfl, rfl, by decide⟩
        case round =>
          obtain ⟨k, Q, hk, rfl, rfl, hQ, hQz⟩ := hrel
          have HQ := Lib.hid hQ
          clear hQ
          by_cases hkn : k < n
          · go_wp2_with fail
            go_round
            case rel =>
              refine ⟨k + 1, _, by omega, by go_num, rfl, ?_, ?_⟩
              · rw [app_list, HQ.out, List.replicate_succ']
              · rw [Lib.size_eq, app_list, List.length_append, ← Lib.size_eq]; simp; omega
            case measure => simp [intOf]; omega
          · obtain rfl : n = k := by omega
            go_wp2_with fail
            have cvq := one_byte
            go_loopw [8, 9, 10] (fun u8 u9 u10 wr => ∃ (k : Nat) (S : ByteArray) (al : Bool), k ≤ t.size ∧ u10 = .int .i64 k ∧ u8 = .string S ∧ u9 = .bool al ∧ S.data.toList = lfBlank (t.data.toList.take k) ∧ al = allBl (lfBlank (t.data.toList.take k)) ∧ S.size ≤ k ∧ Below w.heap.size w wr) (fun _ _ u10 _ => t.size - (intOf u10).toNat)
            case atStart => exact ⟨0, ⟨#[]⟩, true, Nat.zero_le _, rfl, rfl, rfl, rfl, rfl, by decide, b1⟩
            case round =>
              obtain ⟨k, S, al, hk, rfl, rfl, rfl, hS, hal, hSz, hB⟩ := hrel
              have HS := Lib.hid hS
              have HAL := Lib.hid hal
              clear hS hal
              by_cases hkt : k < t.size
              · have hg := Lib.data_getElem? t k hkt
                obtain ⟨d, hd⟩ : ∃ d, t[k] = d := ⟨_, rfl⟩
                rw [hd] at hg
                have HG := Lib.hid hg
                clear hg
                have cv32 := fun W g hg => one_byte W 32 g hg
                simp only [show ((32 : UInt8).toNat : Int) = 32 from rfl] at cv32
                by_cases q1 : d = 10
                · subst q1
                  cases al
                  · go_wp2_with fail
                    go_roundw
                    case rel =>
                      refine ⟨k + 1, _, _, by omega, by go_num, rfl, rfl, ?_, ?_, ?_, hB.alloc hB.size _⟩
                      · rw [app_list, HS.out, lf_take _ _ _ HG.out]; simp [true_and]
                      · rw [allBl_take _ _ _ HG.out, ← HAL.out]; simp [true_and]
                      · rw [Lib.size_eq, app_list, List.length_append, ← Lib.size_eq]; simp; omega
                    case measure => simp [intOf]; omega
                  · go_wp2_with fail
                    go_roundw
                    case rel =>
                      refine ⟨k + 1, _, _, by omega, by go_num, rfl, rfl, ?_, ?_, ?_, hB.alloc hB.size _⟩
                      · rw [app_list, HS.out, lf_take _ _ _ HG.out]; simp [true_and]
                      · rw [allBl_take _ _ _ HG.out, ← HAL.out]; simp [true_and]
                      · rw [Lib.size_eq, app_list, List.length_append, ← Lib.size_eq]; simp; omega
                    case measure => simp [intOf]; omega
                · have q1' : ((d.toNat : Int) == 10) = false := by
                    rw [beq_eq_false_iff_ne]; intro e; exact q1 (byte_eq (n := 10) (by omega))
                  by_cases q2 : d = 32
                  · subst q2
                    cases al
                    · go_wp2_with fail
                      go_roundw
                      case rel =>
                        refine ⟨k + 1, _, _, by omega, by go_num, rfl, rfl, ?_, ?_, ?_, hB.alloc hB.size _⟩
                        · rw [app_list, HS.out, lf_take _ _ _ HG.out]; simp [true_and]
                        · rw [allBl_take _ _ _ HG.out, ← HAL.out]; simp [true_and]
                        · rw [Lib.size_eq, app_list, List.length_append, ← Lib.size_eq]; simp; omega
                      case measure => simp [intOf]; omega
                    · go_wp2_with fail
                      go_roundw
                      case rel =>
                        refine ⟨k + 1, _, _, by omega, by go_num, rfl, rfl, ?_, ?_, ?_, hB.alloc hB.size _⟩
                        · rw [app_list, HS.out, lf_take _ _ _ HG.out]; simp [true_and]
                        · rw [allBl_take _ _ _ HG.out, ← HAL.out]; simp [true_and]
                        · rw [Lib.size_eq, app_list, List.length_append, ← Lib.size_eq]; simp; omega
                      case measure => simp [intOf]; omega
                  · have q2' : ((d.toNat : Int) == 32) = false := by
                      rw [beq_eq_false_iff_ne]; intro e; exact q2 (byte_eq (n := 32) (by omega))
                    have q2b : (d == 32) = false := by rw [beq_eq_false_iff_ne]; exact q2
                    cases al
                    · go_wp2_with fail
                      go_roundw
                      case rel =>
                        refine ⟨k + 1, _, _, by omega, by go_num, rfl, rfl, ?_, ?_, ?_, hB.alloc hB.size _⟩
                        · rw [app_list, HS.out, lf_take _ _ _ HG.out]; simp [q1, q2b]
                        · rw [allBl_take _ _ _ HG.out, ← HAL.out]; simp [q1, q2b]
                        · rw [Lib.size_eq, app_list, List.length_append, ← Lib.size_eq]; simp; omega
                      case measure => simp [intOf]; omega
                    · go_wp2_with fail
                      go_roundw
                      case rel =>
                        refine ⟨k + 1, _, _, by omega, by go_num, rfl, rfl, ?_, ?_, ?_, hB.alloc hB.size _⟩
                        · rw [app_list, HS.out, lf_take _ _ _ HG.out]; simp [q1, q2b]
                        · rw [allBl_take _ _ _ HG.out, ← HAL.out]; simp [q1, q2b]
                        · rw [Lib.size_eq, app_list, List.length_append, ← Lib.size_eq]; simp; omega
                      case measure => simp [intOf]; omega
              · obtain rfl : k = t.size := by omega
                have hS := HS.out
                have hal := HAL.out
                rw [take_all] at hS hal
                have hSe : t.size = S.size := by rw [Lib.size_eq S, hS, lf_len, ← Lib.size_eq]
                have hS0 : 0 < S.size := by omega
                have htz : t.data.toList.length = t.size := (Lib.size_eq t).symm
                have ht0 : t.data.toList ≠ [] := by intro h; rw [h] at htz; simp at htz; omega
                have hnq := HNQ.out
                have c1 : ∀ (Y V : ByteArray) W, V.data.toList = codeText t.data.toList → Y.data.toList = List.replicate n 96 ++ (t.data.toList ++ List.replicate n 96) → Env W → Calls Tryd.prog 37 #[.string Y, .int .i64 0] W fun e w' => e = .returned (.tuple #[.iface 89 (.string V), .int .i64 ((2 * n + t.size : Nat) : Int)]) ∧ Below W.heap.size W w' := fun Y V W hV hY hW => by
                  have hYz : Y.size = n + (t.size + n) := by rw [Lib.size_eq, hY]; simp
                  have := next0 Y W hW (by omega) (by omega)
                  rw [hY, next_code n (by omega) _ ht0 hnq, ← hV, htz] at this
                  simp only [Tok.val, Lib.mk_data] at this
                  exact this
                have c2 : ∀ (Y Z : ByteArray) W, Z.data.toList = List.replicate n 96 → Y.data.toList = List.replicate n 96 ++ t.data.toList → Env W → Calls Tryd.prog 37 #[.string Y, .int .i64 0] W fun e w' => e = .returned (.tuple #[.iface 88 (.string Z), .int .i64 n]) ∧ Below W.heap.size W w' := fun Y Z W hZ hY hW => by
                  have hYz : Y.size = n + t.size := by rw [Lib.size_eq, hY]; simp
                  have := next0 Y W hW (by omega) (by omega)
                  rw [hY, next_nocode n (by omega) _ ht0 hnq, ← hZ] at this
                  simp only [Tok.val, Lib.mk_data] at this
                  exact this
                have C1 := Lib.hid c1
                have C2 := Lib.hid c2
                have HB := Lib.hid hB
                have hzl : S.size - 1 < S.size := by omega
                have hhead := ba_head S hS0
                have hlast := ba_last S hzl
                rw [hS] at hhead hlast
                obtain ⟨x, hx⟩ : ∃ x, S[0]'hS0 = x := ⟨_, rfl⟩
                obtain ⟨y, hy⟩ : ∃ y, S[S.size - 1]'hzl = y := ⟨_, rfl⟩
                rw [hx] at hhead
                rw [hy] at hlast
                have hx' : ∀ h, S[0]'h = x := fun _ => hx
                have hy' : ∀ h, S[S.size - 1]'h = y := fun _ => hy
                clear hx hy
                have HX := Lib.hid hx'
                have HY := Lib.hid hy'
                clear hx' hy' hzl
                have HS := Lib.hid hS
                have HHEAD := Lib.hid hhead
                have HLAST := Lib.hid hlast
                clear hB c1 c2 hnq ht0 htz hS hhead hlast hSe
                have HALL := Lib.hid hal
                clear hal
                cases al
                · have hx' := HX.out
                  have hy' := HY.out
                  by_cases r1 : x = 32
                  · subst r1
                    by_cases r2 : y = 32
                    · subst r2
                      have hst := code_strip HHEAD.out HLAST.out HALL.out.symm
                      have h2 : 2 ≤ S.size := by
                        rcases Nat.lt_or_ge S.size 2 with h | h
                        · exfalso
                          have hl1 : (lfBlank t.data.toList).length = 1 := by rw [← HS.out, ← Lib.size_eq]; omega
                          obtain ⟨c, hc⟩ := List.length_eq_one_iff.1 hl1
                          have hh := HHEAD.out
                          have hal := HALL.out
                          rw [hc] at hh hal
                          simp only [List.head?_cons, Option.some.injEq] at hh
                          rw [hh] at hal
                          exact absurd hal (by decide)
                        · exact h
                      have h2' : (1 : Int) ≤ (S.size : Int) - 1 := by omega
                      have hV : (S.extract 1 (S.size - 1)).data.toList = codeText t.data.toList := by
                        rw [hst, Lib.extract_data, HS.out, List.dropLast_eq_take, ← List.drop_one, List.length_drop, ← HS.out, ← Lib.size_eq]
                      have HV := Lib.hid hV
                      clear hst hV
                      go_wp2_with fail
                      refine (C1.out _ (S.extract 1 (S.size - 1)) _ HV.out (by simp only [app_list]; rw [HQ.out]; simp) (HE.out.below HB.out)).mono ?_
                      rintro e w3 ⟨rfl, b3⟩
                      have B3 := below_step HB.out b3
                      go_wp2_with fail
                      refine (C2.out _ Q _ HQ.out (by simp only [app_list]; rw [HQ.out]) (HE.out.below B3)).mono ?_
                      rintro e w4 ⟨rfl, b4⟩
                      have B4 := below_step B3 b4
                      go_wp2_with fail
                      refine (tok_code _ _).mono ?_
                      rintro e w5 ⟨rfl, b5⟩
                      have B5 := below_step B4 b5
                      go_wp2_with fail
                      refine (tok_word _ _).mono ?_
                      rintro e w6 ⟨rfl, b6⟩
                      have B6 := below_step B5 b6
                      go_wp2_with fail
                      go_ret
                      exact ⟨ret_bool (by first | rfl | (simp; done) | (simp; omega)), B6⟩
                    · have r2' : ((y.toNat : Int) == 32) = false := by
                        rw [beq_eq_false_iff_ne]; intro e; exact r2 (byte_eq (n := 32) (by omega))
                      have HV := Lib.hid (HS.out.trans (code_last_no (t := t.data.toList) (by rw [HLAST.out]; intro e; exact r2 (Option.some.inj e))).symm)
                      go_wp2_with fail
                      refine (C1.out _ (S) _ HV.out (by simp only [app_list]; rw [HQ.out]; simp) (HE.out.below HB.out)).mono ?_
                      rintro e w3 ⟨rfl, b3⟩
                      have B3 := below_step HB.out b3
                      go_wp2_with fail
                      refine (C2.out _ Q _ HQ.out (by simp only [app_list]; rw [HQ.out]) (HE.out.below B3)).mono ?_
                      rintro e w4 ⟨rfl, b4⟩
                      have B4 := below_step B3 b4
                      go_wp2_with fail
                      refine (tok_code _ _).mono ?_
                      rintro e w5 ⟨rfl, b5⟩
                      have B5 := below_step B4 b5
                      go_wp2_with fail
                      refine (tok_word _ _).mono ?_
                      rintro e w6 ⟨rfl, b6⟩
                      have B6 := below_step B5 b6
                      go_wp2_with fail
                      go_ret
                      exact ⟨ret_bool (by first | rfl | (simp; done) | (simp; omega)), B6⟩
                  · have r1' : ((x.toNat : Int) == 32) = false := by
                      rw [beq_eq_false_iff_ne]; intro e; exact r1 (byte_eq (n := 32) (by omega))
                    have HV := Lib.hid (HS.out.trans (code_head_no (t := t.data.toList) (by rw [HHEAD.out]; intro e; exact r1 (Option.some.inj e))).symm)
                    go_wp2_with fail
                    refine (C1.out _ (S) _ HV.out (by simp only [app_list]; rw [HQ.out]; simp) (HE.out.below HB.out)).mono ?_
                    rintro e w3 ⟨rfl, b3⟩
                    have B3 := below_step HB.out b3
                    go_wp2_with fail
                    refine (C2.out _ Q _ HQ.out (by simp only [app_list]; rw [HQ.out]) (HE.out.below B3)).mono ?_
                    rintro e w4 ⟨rfl, b4⟩
                    have B4 := below_step B3 b4
                    go_wp2_with fail
                    refine (tok_code _ _).mono ?_
                    rintro e w5 ⟨rfl, b5⟩
                    have B5 := below_step B4 b5
                    go_wp2_with fail
                    refine (tok_word _ _).mono ?_
                    rintro e w6 ⟨rfl, b6⟩
                    have B6 := below_step B5 b6
                    go_wp2_with fail
                    go_ret
                    exact ⟨ret_bool (by first | rfl | (simp; done) | (simp; omega)), B6⟩
                · have HV := Lib.hid (HS.out.trans (code_all (t := t.data.toList) HALL.out.symm).symm)
                  go_wp2_with fail
                  refine (C1.out _ (S) _ HV.out (by simp only [app_list]; rw [HQ.out]; simp) (HE.out.below HB.out)).mono ?_
                  rintro e w3 ⟨rfl, b3⟩
                  have B3 := below_step HB.out b3
                  go_wp2_with fail
                  refine (C2.out _ Q _ HQ.out (by simp only [app_list]; rw [HQ.out]) (HE.out.below B3)).mono ?_
                  rintro e w4 ⟨rfl, b4⟩
                  have B4 := below_step B3 b4
                  go_wp2_with fail
                  refine (tok_code _ _).mono ?_
                  rintro e w5 ⟨rfl, b5⟩
                  have B5 := below_step B4 b5
                  go_wp2_with fail
                  refine (tok_word _ _).mono ?_
                  rintro e w6 ⟨rfl, b6⟩
                  have B6 := below_step B5 b6
                  go_wp2_with fail
                  go_ret
                  exact ⟨ret_bool (by first | rfl | (simp; done) | (simp; omega)), B6⟩
  · have hcs : p < 1 ∨ (¬ p < 1 ∧ 6 < p) ∨ (¬ p < 1 ∧ ¬ 6 < p ∧ t.size = 0) ∨ (¬ p < 1 ∧ ¬ 6 < p ∧ 0 < t.size ∧ (60 : Int) < (t.size : Int)) := by omega
    clear hr
    rcases hcs with t1 | ⟨t1, t2⟩ | ⟨t1, t2, t3⟩ | ⟨t1, t2, t3, t4⟩
    · go_enter Tryd.func14, Tryd.ntmps14
      go_wp2_with fail
      refine (alive12 _ hE).mono ?_
      rintro e w1 ⟨rfl, b1⟩
      go_wp2_with fail
      go_ret
      exact ⟨rfl, b1⟩
    · go_enter Tryd.func14, Tryd.ntmps14
      go_wp2_with fail
      refine (alive12 _ hE).mono ?_
      rintro e w1 ⟨rfl, b1⟩
      go_wp2_with fail
      go_ret
      exact ⟨rfl, b1⟩
    · have he := empty_yes t3
      go_enter Tryd.func14, Tryd.ntmps14
      go_wp2_with fail
      refine (alive12 _ hE).mono ?_
      rintro e w1 ⟨rfl, b1⟩
      go_wp2_with fail
      go_ret
      exact ⟨rfl, b1⟩
    · have he := empty_no t3
      go_enter Tryd.func14, Tryd.ntmps14
      go_wp2_with fail
      refine (alive12 _ hE).mono ?_
      rintro e w1 ⟨rfl, b1⟩
      go_wp2_with fail
      go_ret
      exact ⟨rfl, b1⟩

end Go.Proofs.YtmllkffdejojbaaDoor
