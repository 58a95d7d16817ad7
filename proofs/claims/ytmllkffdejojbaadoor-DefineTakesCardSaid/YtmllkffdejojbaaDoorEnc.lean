/-
  target.Encode: each byte of a url stays, or is written by two digits.
-/
import Derived.Test.YtmllkffdejojbaaDoorBld
import Derived.Test.YtmllkffdejojbaaDoorTgtSpec
import Derived.Test.YtmllkffdejojbaaDoorStr
import Derived.Deep.DeepCutAuto
import Derived.Deep.RegionWith
import Derived.Deep.QuietTactic
import Derived.BigQuiet
import Derived.WalkLawsBesides
import Derived.WalkSpells
import Derived.Lib.Hide
namespace Go.Proofs.YtmllkffdejojbaaDoor
open Go.RowKit
set_option maxRecDepth 100000
set_option linter.unusedVariables false
set_option linter.unusedSimpArgs false

set_option maxHeartbeats 4000000 in
theorem encode_any (s : ByteArray) (w : World) (hs : s.size ≤ 1000000) :
    Calls Tryd.prog 23 #[.string s] w fun e w' => e = .returned (.string ⟨(encode s.data.toList).toArray⟩) ∧ Below w.heap.size w w' := by
  go_enter Tryd.func23, Tryd.ntmps23
  go_wp2
  go_loopw [8] (fun u8 wr => ∃ k : Nat, k ≤ s.size ∧ u8 = .int .i64 k ∧ Lib.IsBuilderF 62 5 w.heap.size w.heap.size (Lib.byteCells (encode (s.data.toList.take k))) wr ∧ Below w.heap.size w wr) (fun u8 _ => s.size - (intOf u8).toNat)
  case atStart => exact ⟨0, Nat.zero_le _, rfl, Lib.IsBuilderF.of (Lib.fresh_isBuilder 62 5 w), (Below.refl _ _).alloc (Nat.le_refl _) _⟩
  case round =>
    obtain ⟨k, hk, rfl, hI, hB⟩ := hrel
    by_cases hlt : k < s.size
    · go_upto_region 6 with (fail)
      obtain ⟨c, hc⟩ : ∃ c : UInt8, c = s[k] := ⟨_, rfl⟩
      rw [← hc]
      have HC := Lib.hid hc
      clear hc
      obtain ⟨cb0, cb1⟩ := byte_lt c
      obtain ⟨x, hx⟩ : ∃ x, bits BinOp.or IntKind.u8 (c.toNat : Int) 32 = x := ⟨_, rfl⟩
      obtain ⟨y, hy⟩ : ∃ y, Lib.indexByte stayL ((c.toNat : Int).toNat.toUInt8) = y := ⟨_, rfl⟩
      have HL := Lib.hid (or_letter c)
      have HS := Lib.hid (stay_index c)
      have HD := Lib.hid (dig_test c)
      have HX := Lib.hid hx
      have HY := Lib.hid hy
      clear hy
      go_cut [34] (fun u34 wc => u34 = .bool (okUrl c) ∧ wc = wr)
      case first =>
        by_cases d1 : 48 ≤ (c.toNat : Int) ∧ (c.toNat : Int) ≤ 57
        · have HE := Lib.hid (show okUrl c = true by unfold okUrl; rw [HD.out]; simp [d1.1, d1.2])
          obtain ⟨d2, d3⟩ := d1
          go_wp2
          go_meet
          case rel => exact ⟨by rw [HE.out], rfl⟩
        · by_cases d2 : 97 ≤ x ∧ x ≤ 122
          · have HE := Lib.hid (show okUrl c = true by unfold okUrl; rw [← HL.out, HX.out]; simp [d2.1, d2.2])
            obtain ⟨d3, d4⟩ := d2
            go_wp2
            all_goals
              first
              | (exfalso; omega)
              | (go_meet
                 case rel => exact ⟨by rw [HE.out], rfl⟩)
          · have HE := Lib.hid (show okUrl c = decide (0 ≤ y) by
              rw [← HY.out, HS.out]; unfold okUrl; rw [HD.out, ← HL.out, HX.out]
              have e1 : (decide (48 ≤ (c.toNat : Int)) && decide ((c.toNat : Int) ≤ 57)) = false := by
                rw [Bool.eq_false_iff]; intro h; simp at h; exact d1 (by omega)
              have e2 : (decide (97 ≤ x) && decide (x ≤ 122)) = false := by
                rw [Bool.eq_false_iff]; intro h; simp at h; exact d2 h
              rw [e1, e2]; rfl)
            go_wp2_with fail
            all_goals
              refine (Tryd.strings_IndexByte _ _ _).mono ?_
              rintro e w' ⟨rfl, rfl⟩
              rw [show Lib.indexByte (ByteArray.mk #[45, 46, 95, 126, 58, 47, 63, 35, 64, 33, 36, 38, 39, 40, 41, 42, 43, 44, 59, 61, 37]).data.toList ((c.toNat : Int).toNat.toUInt8) = y from HY.out]
              go_wp2
              go_meet
              case rel => exact ⟨congrArg Value.bool (by rw [HE.out]; try (rw [Bool.eq_iff_iff]; simp; try omega)), rfl⟩
      case rest =>
        obtain ⟨rfl, rfl⟩ := hcut
        clear hx
        have hlen : (encode (s.data.toList.take k)).length ≤ 3 * k := encode_len _ _
        have HS' := Lib.hid (encode_snoc s k hlt c HC.out)
        cases hok : okUrl c
        · have HE := Lib.hid (show encB c = [37, hexD (c / 16), hexD (c % 16)] by unfold encB; rw [hok]; rfl)
          clear hok
          obtain ⟨q, hq⟩ : ∃ q : Nat, q = c.toNat / 16 := ⟨_, rfl⟩
          obtain ⟨r, hr⟩ : ∃ r : Nat, r = c.toNat % 16 := ⟨_, rfl⟩
          have hq16 : (q : Int) < 16 := by have := c.toNat_lt; omega
          have hr16 : (r : Int) < 16 := by omega
          have e1 : (c.toNat : Int) / 2 ^ 4 = (q : Int) := by rw [hq]; simp
          have e1' : (c.toNat : Int) / 16 = (q : Int) := by rw [hq]; simp
          have e2 : bits BinOp.and IntKind.u8 (c.toNat : Int) 15 = (r : Int) := by rw [hr]; exact and15 c
          have e3 : IntKind.u8.wrap ((q : Int) + 1) = (q : Int) + 1 := by rw [IntKind.wrap_u8']; omega
          have e4 : IntKind.u8.wrap ((r : Int) + 1) = (r : Int) + 1 := by rw [IntKind.wrap_u8']; omega
          have HQ := Lib.hid hq
          have HR := Lib.hid hr
          clear hq hr
          go_wp2
          obtain ⟨S, hS⟩ : ∃ S, ByteArray.mk #[37] ++ (ByteArray.mk #[48, 49, 50, 51, 52, 53, 54, 55, 56, 57, 65, 66, 67, 68, 69, 70]).extract q (q + 1) ++ (ByteArray.mk #[48, 49, 50, 51, 52, 53, 54, 55, 56, 57, 65, 66, 67, 68, 69, 70]).extract r (r + 1) = S := ⟨_, rfl⟩
          have hSl : S.data.toList = [37, hexD (c / 16), hexD (c % 16)] := by rw [← hS, HQ.out, HR.out]; exact hexS c
          have hSs : S.size = 3 := by have := congrArg List.length hSl; simpa using this
          have HSL := Lib.hid hSl
          have HSS := Lib.hid hSs
          have HSQ := Lib.hid hS
          clear hS hSl hSs
          have hId : Lib.IsBuilderF 62 5 w.heap.size w.heap.size (Lib.byteCells (encode (s.data.toList.take k))) wc.drew := hI
          have hcall := bld_string w.heap.size w.heap.size _ S wc.drew hId (by rw [Lib.byteCells_length, HSS.out]; omega) hB.size
          rw [← HSQ.out] at hcall
          have HCALL := Lib.hid hcall
          clear hcall
          go_region_with (go_at_call 45; refine (HCALL.out).mono ?_; rintro e w1 ⟨rfl, h1, b1, k1⟩)
          all_goals
            go_wp2
            go_roundw
            case rel => exact ⟨k + 1, by omega, by go_num, by rw [HS'.out, HE.out, Lib.byteCells_append, ← HSL.out]; rw [HSQ.out] at h1; exact .inr h1, (hB.drew).trans b1⟩
            case measure => simp [intOf]; omega
        · have HE := Lib.hid (show encB c = [c] by unfold encB; rw [hok]; rfl)
          clear hok
          go_wp2_with fail
          refine (bld_byte w.heap.size w.heap.size _ _ wc hI (by rw [Lib.byteCells_length]; omega) hB.size).mono ?_
          rintro e w1 ⟨rfl, h1, b1, k1⟩
          go_wp2
          go_roundw
          case rel => exact ⟨k + 1, by omega, by go_num, by rw [HS'.out, HE.out, Lib.byteCells_append]; exact .inr h1, hB.trans b1⟩
          case measure => simp [intOf]; omega
    · obtain rfl : k = s.size := by omega
      rw [take_all] at hI
      go_wp2_with fail
      refine (Tryd.Builder_String_any_k w.heap.size w.heap.size _ wr hI hB.size).mono ?_
      rintro e w2 ⟨rfl, _, hb2, _⟩
      go_wp2
      go_ret
      exact ⟨rfl, hB.trans hb2⟩

end Go.Proofs.YtmllkffdejojbaaDoor
