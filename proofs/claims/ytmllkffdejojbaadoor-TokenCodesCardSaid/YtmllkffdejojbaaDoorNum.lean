/-
  entity.number: the rune of digits.
-/
import Derived.Test.YtmllkffdejojbaaDoorEntSpec
import Derived.Deep.DeepCutAuto
import Derived.Deep.CutBlock
import Derived.WalkLawsBesides
import Derived.WalkSpells
import Derived.BigCall
import Derived.Lib.Hide
namespace Go.Proofs.YtmllkffdejojbaaDoor
open Go.RowKit
set_option maxRecDepth 100000
set_option linter.unusedVariables false
set_option linter.unusedSimpArgs false

theorem digLen_step (base : Nat) : ∀ (l : List UInt8) (k : Nat), k ≤ digLen base l → k < l.length → isDig base (l.getD k 0) = true → k + 1 ≤ digLen base l := by
  intro l
  induction l with
  | nil => intro k _ h; simp at h
  | cons c l ih =>
    intro k h1 h2 h3
    unfold digLen at *
    rw [List.takeWhile_cons] at *
    cases k with
    | zero => simp at h3; simp [h3]
    | succ k =>
      split at h1
      · rename_i hc
        simp only [List.length_cons] at *
        have := ih k (by omega) (by omega) (by simpa using h3)
        simp [hc]; omega
      · simp at h1

theorem digLen_stop (base : Nat) : ∀ (l : List UInt8) (k : Nat), k ≤ digLen base l → isDig base (l.getD k 0) = false → digLen base l = k := by
  intro l
  induction l with
  | nil => intro k h _; simp [digLen] at *; omega
  | cons c l ih =>
    intro k h1 h3
    unfold digLen at *
    rw [List.takeWhile_cons] at *
    cases k with
    | zero => simp at h3; simp [h3]
    | succ k =>
      split at h1
      · rename_i hc
        simp only [List.length_cons] at *
        have := ih k (by omega) (by simpa using h3)
        simp [hc, this]
      · simp at h1

theorem digLen_le (base : Nat) (l : List UInt8) : digLen base l ≤ l.length := by
  unfold digLen; exact (List.takeWhile_sublist _).length_le

theorem numVal_step (base : Nat) (l : List UInt8) (k : Nat) (hk : k < l.length) : numVal base (l.take (k + 1)) = numVal base (l.take k) * base + digV (l.getD k 0) := by
  unfold numVal
  rw [List.take_succ_eq_append_getElem hk, List.foldl_append]
  simp [List.getD_eq_getElem?_getD, hk]

theorem getD_byte (s : ByteArray) (k : Nat) (hk : k < s.size) : s.data.toList.getD k 0 = s[k] := by
  simp [List.getD_eq_getElem?_getD, hk]; rfl

theorem number_none (base most : Nat) (l : List UInt8) (h : most < digLen base l ∨ digLen base l = 0 ∨ l.getD (digLen base l) 0 ≠ 59) : number base most l = ([], 0) := by
  unfold number
  exact if_pos h

theorem number_some (base most : Nat) (l : List UInt8) (h1 : digLen base l ≤ most) (h2 : digLen base l ≠ 0) (h3 : l.getD (digLen base l) 0 = 59) :
    number base most l = (if numVal base (l.take (digLen base l)) = 0 ∨ Lib.validRune (numVal base (l.take (digLen base l))) = false then [239, 191, 189] else (Utf8.encode (numVal base (l.take (digLen base l)))).data.toList, digLen base l) := by
  unfold number
  rw [if_neg (by rintro (h | h | h); omega; exact h2 h; exact h h3)]

theorem ret_num {p q : List UInt8 × Nat} (h : p = q) : Ending.returned (.tuple #[.string ⟨q.1.toArray⟩, .int .i64 q.2]) = .returned (.tuple #[.string ⟨p.1.toArray⟩, .int .i64 p.2]) := by rw [h]

theorem ret_num_enc {p : List UInt8 × Nat} {x : ByteArray} {n : Nat} (h : p = (x.data.toList, n)) : Ending.returned (.tuple #[.string x, .int .i64 n]) = .returned (.tuple #[.string ⟨p.1.toArray⟩, .int .i64 p.2]) := by rw [h, Lib.mk_data]

set_option maxHeartbeats 4000000 in
theorem number_any (s : ByteArray) (base most : Nat) (hb : base = 10 ∨ base = 16) (hm : most ≤ 7) (hz : s.size ≤ 1000000000) (w : World) :
    Calls Tryd.prog 71 #[.string s, .int .i64 base, .int .i64 most] w fun e w' => e = .returned (.tuple #[.string ⟨(number base most s.data.toList).1.toArray⟩, .int .i64 (number base most s.data.toList).2]) ∧ Below w.heap.size w w' := by
  go_enter Tryd.func71, Tryd.ntmps71
  go_upto_block 0 with (fail)
  go_cut [8, 9] (fun u8 u9 wc => ∃ v n : Nat, u8 = .int .i64 v ∧ u9 = .int .i64 n ∧ Below w.heap.size w wc ∧ (n = 0 ∧ digLen base s.data.toList = s.size ∨ n = digLen base s.data.toList ∧ n < s.size ∧ n ≤ most ∧ v = numVal base (s.data.toList.take n)) ∧ v < 16 ^ 7)
  case first =>
    go_wp2_with fail
    go_loopw [8, 9] (fun u8 u9 wr => ∃ v pos : Nat, u8 = .int .i64 v ∧ u9 = .int .i64 0 ∧ wr.heap[w.heap.size]? = some (.stringIter s pos) ∧ Below w.heap.size w wr ∧ pos ≤ s.size ∧ pos ≤ digLen base s.data.toList ∧ pos ≤ most ∧ v = numVal base (s.data.toList.take pos) ∧ v < 16 ^ pos) (fun _ _ wr => s.size - wr.iterPos w.heap.size)
    case atStart =>
      refine ⟨0, 0, rfl, rfl, ?_, ?_, by omega, by omega, by omega, rfl, by decide⟩
      · have := World.iter_heap w s 0
        simpa using this
      · exact (Below.refl _ w).alloc (Nat.le_refl _) _
    case round =>
      obtain ⟨v, pos, rfl, rfl, hit, hbw, hpz, hpd, hpm, hv, hv16⟩ := hrel
      have hsz : w.heap.size < wr.heap.size := (Array.getElem?_eq_some_iff.1 hit).1
      have hp16 : 16 ^ pos ≤ 16 ^ 7 := Nat.pow_le_pow_right (by omega) (by omega)
      by_cases hp : pos < s.size
      · have hnx : ∀ ty, (Instr.next (.pointer (some ⟨w.heap.size, 0, none⟩)) true ty).run Tryd.prog wr = _ := fun ty => Lib.run_next_any_at wr w.heap.size s pos ty hit hp
        have hit2 := Lib.iterAt_heap wr w.heap.size s pos (pos + (Utf8.decode s pos).2) hit
        have hbw2 := Lib.below_iterAt hbw (k := w.heap.size) (by omega) s (pos + (Utf8.decode s pos).2)
        by_cases hasc : s[pos].toNat < 128
        · have hd := Go.decode_ascii s pos hp hasc
          rw [hd] at hnx hit2 hbw2
          have hgd := getD_byte s pos hp
          obtain ⟨c, hc⟩ : ∃ c, s[pos] = c := ⟨_, rfl⟩
          rw [hc] at hasc hnx hit2 hbw2 hgd
          clear hd
          obtain ⟨⟨o1, o2⟩, o3⟩ := dig_facts c hasc
          obtain ⟨q, hq⟩ : ∃ q, bits BinOp.or IntKind.i32 (c.toNat : Int) 32 = q := ⟨_, rfl⟩
          rw [hq] at o1 o2 o3
          simp only at hnx hit2 hbw2
          have HC : ∀ W, Calls Tryd.prog 70 #[.string ⟨#[48, 49, 50, 51, 52, 53, 54, 55, 56, 57, 97, 98, 99, 100, 101, 102]⟩, .int .i32 q] W fun e w' => e = .returned (.int .i64 (Lib.indexByte hexL q.toNat.toUInt8)) ∧ w' = W := fun W => Tryd.strings_IndexRune_ascii _ q W o1 o2
          obtain ⟨d, hd⟩ : ∃ d, Lib.indexByte hexL q.toNat.toUInt8 = d := ⟨_, rfl⟩
          rw [hd] at o3
          simp only [hd] at HC
          by_cases cD : isDig base c = true
          · have cD' : digV c < base := by simpa [isDig] using cD
            have o4 : 48 ≤ c.toNat ∧ c.toNat ≤ 102 ∧ ¬ (57 < c.toNat ∧ c.toNat < 65) := by
              by_cases o4 : 48 ≤ c.toNat ∧ c.toNat ≤ 102 ∧ ¬ (57 < c.toNat ∧ c.toNat < 65)
              · exact o4
              · rw [if_neg o4] at o3; omega
            rw [if_pos o4] at o3
            have o5 : d = digV c := by omega
            subst o5
            have t1 : ¬ (c.toNat : Int) < 48 := by omega
            have t2 : ¬ (102 : Int) < (c.toNat : Int) := by omega
            have t5 : ¬ (digV c : Int) < 0 := by omega
            have t6 : ¬ (base : Int) ≤ (digV c : Int) := by omega
            have hst := digLen_step base s.data.toList pos hpd (by simpa using hp) (by rw [hgd]; exact cD)
            have hns := numVal_step base s.data.toList pos (by simpa using hp)
            rw [← hv, hgd] at hns
            have HNS := Lib.hid hns
            have HV := Lib.hid hv
            clear hns hv o3
            by_cases cM : pos = most
            · subst cM
              by_cases t3 : c.toNat ≤ 57
              · have t4 : ¬ (57 : Int) < (c.toNat : Int) := by omega
                go_wp2_with fail
                refine (HC _).mono ?_
                rintro e w' ⟨rfl, rfl⟩
                go_wp2_with fail
                go_ret2
                exact ⟨ret_num (number_none base pos _ (Or.inl (by omega))), hbw2⟩
              · have t4 : (57 : Int) < (c.toNat : Int) := by omega
                have t7 : ¬ (c.toNat : Int) < 65 := by omega
                go_wp2_with fail
                refine (HC _).mono ?_
                rintro e w' ⟨rfl, rfl⟩
                go_wp2_with fail
                go_ret2
                exact ⟨ret_num (number_none base pos _ (Or.inl (by omega))), hbw2⟩
            · have cM' : ¬ (pos : Int) = (most : Int) := by omega
              have m1 : v * base ≤ v * 16 := Nat.mul_le_mul_left _ (by omega)
              obtain ⟨V, hV⟩ : ∃ V, v * base = V := ⟨_, rfl⟩
              have m5 : IntKind.i64.wrap ((v : Int) * (base : Int)) = (V : Int) := by
                rw [← hV, wrap_small _ (by omega) (by omega)]; simp
              have m4 : 16 ^ (pos + 1) = 16 ^ pos * 16 := Nat.pow_succ ..
              rw [hV] at m1
              by_cases t3 : c.toNat ≤ 57
              · have t4 : ¬ (57 : Int) < (c.toNat : Int) := by omega
                go_wp2_with fail
                refine (HC _).mono ?_
                rintro e w' ⟨rfl, rfl⟩
                go_wp2_with fail
                go_roundw
                case rel =>
                  exact ⟨V + digV c, pos + 1, by simp, rfl, hit2, hbw2, by omega, hst, by omega, by rw [HNS.out, hV], by omega⟩
                case measure => simp only [World.iterPos, hit2, hit]; omega
              · have t4 : (57 : Int) < (c.toNat : Int) := by omega
                have t7 : ¬ (c.toNat : Int) < 65 := by omega
                go_wp2_with fail
                refine (HC _).mono ?_
                rintro e w' ⟨rfl, rfl⟩
                go_wp2_with fail
                go_roundw
                case rel =>
                  exact ⟨V + digV c, pos + 1, by simp, rfl, hit2, hbw2, by omega, hst, by omega, by rw [HNS.out, hV], by omega⟩
                case measure => simp only [World.iterPos, hit2, hit]; omega
          · have cD' : ¬ digV c < base := by simpa [isDig] using cD
            have hst := digLen_stop base s.data.toList pos hpd (by rw [hgd]; simpa using cD)
            have HST := Lib.hid hst
            have HV := Lib.hid hv
            clear hst hv
            have hcases : ((c.toNat : Int) < 48) ∨ (¬ (c.toNat : Int) < 48 ∧ (102 : Int) < (c.toNat : Int)) ∨ (¬ (c.toNat : Int) < 48 ∧ ¬ (102 : Int) < (c.toNat : Int) ∧ (57 : Int) < (c.toNat : Int) ∧ (c.toNat : Int) < 65)
                ∨ (¬ (c.toNat : Int) < 48 ∧ ¬ (102 : Int) < (c.toNat : Int) ∧ (57 : Int) < (c.toNat : Int) ∧ ¬ (c.toNat : Int) < 65 ∧ d < 0) ∨ (¬ (c.toNat : Int) < 48 ∧ ¬ (102 : Int) < (c.toNat : Int) ∧ (57 : Int) < (c.toNat : Int) ∧ ¬ (c.toNat : Int) < 65 ∧ ¬ d < 0 ∧ (base : Int) ≤ d)
                ∨ (¬ (c.toNat : Int) < 48 ∧ ¬ (102 : Int) < (c.toNat : Int) ∧ ¬ (57 : Int) < (c.toNat : Int) ∧ d < 0) ∨ (¬ (c.toNat : Int) < 48 ∧ ¬ (102 : Int) < (c.toNat : Int) ∧ ¬ (57 : Int) < (c.toNat : Int) ∧ ¬ d < 0 ∧ (base : Int) ≤ d) := by
              by_cases o4 : 48 ≤ c.toNat ∧ c.toNat ≤ 102 ∧ ¬ (57 < c.toNat ∧ c.toNat < 65)
              · rw [if_pos o4] at o3; omega
              · rw [if_neg o4] at o3; omega
            clear o3 cD cD'
            rcases hcases with t1 | ⟨t1, t2⟩ | ⟨t1, t2, t3, t4⟩ | ⟨t1, t2, t3, t4, t5⟩ | ⟨t1, t2, t3, t4, t5, t6⟩ | ⟨t1, t2, t3, t5⟩ | ⟨t1, t2, t3, t5, t6⟩
            all_goals
              go_wp2_with fail
              refine (HC _).mono ?_
              rintro e w' ⟨rfl, rfl⟩
              go_wp2_with fail
              go_meet
              case rel => exact ⟨v, pos, rfl, rfl, hbw2, Or.inr ⟨HST.out.symm, hp, hpm, HV.out⟩, by omega⟩
        · have hbig := decode_big s pos hp (by omega)
          have hdl := Lib.rune_le s pos
          have hst := digLen_stop base s.data.toList pos hpd (by
            rw [getD_byte s pos hp]; unfold isDig digV
            have : ¬ s[pos].toNat < 128 := hasc
            rw [if_neg (by rw [UInt8.le_iff_toNat_le, UInt8.le_iff_toNat_le]; simp; omega), if_neg (by rw [UInt8.le_iff_toNat_le, UInt8.le_iff_toNat_le]; simp; omega), if_neg (by rw [UInt8.le_iff_toNat_le, UInt8.le_iff_toNat_le]; simp; omega)]
            simp; omega)
          have HST := Lib.hid hst
          have HV := Lib.hid hv
          clear hst hv
          obtain ⟨r, n, hrn⟩ : ∃ r n, Utf8.decode s pos = (r, n) := ⟨_, _, rfl⟩
          rw [hrn] at hnx hit2 hbw2 hbig hdl
          simp only at hnx hit2 hbw2 hbig hdl
          clear hrn
          obtain ⟨o1, o2⟩ := or_big r hbig (by omega)
          obtain ⟨q, hq⟩ : ∃ q, bits BinOp.or IntKind.i32 (r : Int) 32 = q := ⟨_, rfl⟩
          rw [hq] at o1 o2
          have t1 : ¬ (r : Int) < 48 := by omega
          have t2 : (102 : Int) < (r : Int) := by omega
          go_wp2_with fail
          refine (indexRune_big _ q _ (by unfold AllAscii; decide) (by decide) o1 o2).mono ?_
          rintro e w' ⟨rfl, hb3⟩
          have hbb := hbw2.trans (hb3.mono hbw2.size)
          go_wp2_with fail
          go_meet
          case rel => exact ⟨v, pos, rfl, rfl, hbb, Or.inr ⟨HST.out.symm, hp, hpm, HV.out⟩, by omega⟩
      · have hnx : ∀ ty, (Instr.next (.pointer (some ⟨w.heap.size, 0, none⟩)) true ty).run Tryd.prog wr = _ := fun ty => Lib.run_next_end_at wr w.heap.size s pos ty hit hp
        have hdl := digLen_le base s.data.toList
        have HS := Lib.hid (show digLen base s.data.toList = s.size by have : s.data.toList.length = s.size := by simp
                                                                       omega)
        clear hv
        go_wp2_with fail
        go_meet
        case rel => exact ⟨v, 0, rfl, rfl, hbw, Or.inl ⟨rfl, HS.out⟩, by omega⟩
  case rest =>
    obtain ⟨v, n, rfl, rfl, hB, hD, hv⟩ := hcut
    rw [show 16 ^ 7 = 268435456 from by decide] at hv
    by_cases c0 : n = 0
    · have HN := Lib.hid (number_none base most s.data.toList (by
        rcases hD with ⟨_, h⟩ | ⟨h, _⟩
        · exact Or.inr (Or.inr (by rw [h]; simp [List.getD_eq_getElem?_getD]))
        · exact Or.inr (Or.inl (by omega))))
      subst c0
      clear hD
      go_wp2_with fail
      go_ret2
      exact ⟨ret_num HN.out, hB⟩
    · rcases hD with ⟨h, _⟩ | ⟨h1, h2, h3, h4⟩
      · omega
      · have hc0 : ((n : Int) == 0) = false := by simp; omega
        have hgd := getD_byte s n h2
        obtain ⟨x, hx⟩ : ∃ x, s[n] = x := ⟨_, rfl⟩
        rw [hx] at hgd
        have HG := Lib.hid hgd
        have H1 := Lib.hid h1
        have H4 := Lib.hid h4
        clear hgd h1 h4 c0
        by_cases c1 : x.toNat = 59
        · have hxe : x = 59 := UInt8.toNat.inj (by simpa using c1)
          have HNS := Lib.hid (number_some base most s.data.toList (by rw [← H1.out]; exact h3) (by rw [← H1.out]; intro h; rw [h] at hc0; simp at hc0) (by rw [← H1.out, HG.out, hxe]))
          clear hxe
          have t1 : ((x.toNat : Int) == 59) = true := by simp; omega
          have t1' : ((x.toNat : Int) != 59) = false := by simp; omega
          clear c1
          by_cases c2 : v = 0
          · have HB := Lib.hid (show number base most s.data.toList = ([239, 191, 189], n) by
              rw [HNS.out, ← H1.out, ← H4.out, if_pos (Or.inl c2)])
            have t2 : ((v : Int) == 0) = true := by simp; omega
            clear c2
            go_wp2_with fail
            go_ret2
            exact ⟨ret_num HB.out, hB⟩
          · have t2 : ((v : Int) == 0) = false := by simp; omega
            have hw : IntKind.i32.wrap (v : Int) = (v : Int) := by unfold IntKind.wrap; simp [IntKind.bits, IntKind.signed]; omega
            cases hvr : Lib.validRune (v : Int)
            · have HB := Lib.hid (show number base most s.data.toList = ([239, 191, 189], n) by
                rw [HNS.out, ← H1.out, ← H4.out, if_pos (Or.inr hvr)])
              have HR := Lib.hid hvr
              clear c2 hvr
              go_wp2_with fail
              refine (Tryd.utf8_ValidRune _ _).mono ?_
              rintro e w' ⟨rfl, rfl⟩
              rw [HR.out]
              go_wp2_with fail
              go_ret2
              exact ⟨ret_num HB.out, hB⟩
            · have HB := Lib.hid (show number base most s.data.toList = ((Utf8.encode (v : Int)).data.toList, n) by
                rw [HNS.out, ← H1.out, ← H4.out, if_neg (by rintro (h | h); exact c2 h; rw [hvr] at h; cases h)])
              have HR := Lib.hid hvr
              clear c2 hvr
              go_wp2_with fail
              refine (Tryd.utf8_ValidRune _ _).mono ?_
              rintro e w' ⟨rfl, rfl⟩
              rw [HR.out]
              go_wp2_with fail
              go_ret2
              exact ⟨ret_num_enc HB.out, hB⟩
        · have HN := Lib.hid (number_none base most s.data.toList (Or.inr (Or.inr (by
            rw [← H1.out, HG.out]; intro h; rw [h] at c1; exact c1 rfl))))
          have t1 : ((x.toNat : Int) == 59) = false := by simp; omega
          have t1' : ((x.toNat : Int) != 59) = true := by simp; omega
          clear c1
          go_wp2_with fail
          go_ret2
          exact ⟨ret_num HN.out, hB⟩
end Go.Proofs.YtmllkffdejojbaaDoor
