/-
  DefineTakes: definitions at the beginning of a text are taken, as many as there are; the rest stays as it is: the walk of the law.
-/
import Derived.Test.YtmllkffdejojbaaDoorAlive11
import Derived.Test.YtmllkffdejojbaaDoorNames
import Derived.Test.YtmllkffdejojbaaDoorLawPlain
import Derived.Test.YtmllkffdejojbaaDoorOneByte
import Derived.BigRegion
namespace Go.Proofs.YtmllkffdejojbaaDoor
open Go.RowKit
set_option maxRecDepth 100000
set_option linter.unusedVariables false
set_option linter.unusedSimpArgs false

set_option maxHeartbeats 4000000 in
theorem law_takes (a : Option Addr) (len cap : Nat) (rest : ByteArray) (w : World) (P : Nat → ByteArray) (hP : IsNames w a len P) (hE : Env w) :
    Calls Tryd.prog 12 #[.slice a len cap, .string rest] w fun e w' => e = .returned (.bool true) ∧ Below w.heap.size w w' := by
  by_cases hr : len ≤ 12 ∧ rest.size ≤ 60
  · obtain ⟨h1, h2⟩ := hr
    have h1' : ¬ (12 : Int) < (len : Int) := by omega
    have h2' : ¬ (60 : Int) < (rest.size : Int) := by omega
    have HE := Lib.hid hE
    have HP := Lib.hid hP
    clear hE hP
    go_enter Tryd.func12, Tryd.ntmps12
    go_wp2_with fail
    refine (alive11 _ HE.out).mono ?_
    rintro e w1 ⟨rfl, b1⟩
    go_wp2_with fail
    go_loopw [5, 28] (fun u5 u28 wr => ∃ (i : Nat) (S : ByteArray), i ≤ len ∧ u28 = .int .i64 i ∧ u5 = .string S ∧ S.data.toList = takeText (namesTo P i) 0 ∧ (∀ n ∈ namesTo P i, Letters n ∧ n ≠ [] ∧ n.length ≤ 20) ∧ S.size ≤ 40 * i ∧ Below w.heap.size w wr) (fun _ u28 _ => len - (intOf u28).toNat)
    case atStart => exact ⟨0, ⟨#[]⟩, by omega, rfl, rfl, rfl, fun n hn => by simp [namesTo] at hn, by decide, b1⟩
    case round =>
      obtain ⟨i, S, hi, rfl, rfl, hS, hall, hSz, hB⟩ := hrel
      have HS := Lib.hid hS
      have HALL := Lib.hid hall
      clear hS hall
      by_cases hlt : i < len
      · obtain ⟨b, off, hx1, hx2, hx3, hx4⟩ := HP.out
        have hxa := hx1 (by omega)
        have hxb := hx2 (by omega)
        obtain ⟨n, hn⟩ : ∃ n, P i = n := ⟨_, rfl⟩
        have hxc : wr.cell? ⟨b, off + i, none⟩ = some (.string n) := by rw [← hn]; exact (hB.cell (p := ⟨b, off + i, none⟩) hxb).trans (hx3 i hlt)
        subst hxa
        have HN := Lib.hid hn
        clear hx1 hx2 hx3 hn
        by_cases t0 : n.size = 0
        · have he := empty_yes t0
          go_wp2_with fail
          go_ret
          exact ⟨rfl, hB⟩
        · have he := empty_no (s := n) (by omega)
          by_cases t1 : (20 : Int) < (n.size : Int)
          · go_wp2_with fail
            go_ret
            exact ⟨rfl, hB⟩
          · go_wp2_with fail
            go_loop [8] (fun u8 => ∃ k : Nat, k ≤ n.size ∧ u8 = .int .i64 k ∧ Letters (n.data.toList.take k)) (fun u8 => n.size - (intOf u8).toNat)
            case atStart => exact ⟨0, Nat.zero_le _, rfl, fun b hb => by simp at hb⟩
            case round =>
              obtain ⟨k, hk, rfl, hl⟩ := hrel
              have HL := Lib.hid hl
              clear hl
              by_cases hkt : k < n.size
              · have hg := Lib.data_getElem? n k hkt
                obtain ⟨d, hd⟩ : ∃ d, n[k] = d := ⟨_, rfl⟩
                rw [hd] at hg
                have HG := Lib.hid hg
                clear hg
                by_cases t2 : (d.toNat : Int) < 97
                · go_wp2_with fail
                  go_ret
                  exact ⟨rfl, hB⟩
                · by_cases t3 : (122 : Int) < (d.toNat : Int)
                  · go_wp2_with fail
                    go_ret
                    exact ⟨rfl, hB⟩
                  · have HM := Lib.hid (letters_take HL.out HG.out (by omega))
                    go_wp2_with fail
                    go_round
                    case rel => exact ⟨k + 1, by omega, by go_num, HM.out⟩
                    case measure => simp [intOf]; omega
              · obtain rfl : k = n.size := by omega
                have hln : Letters n.data.toList := by have := HL.out; rwa [take_all] at this
                have HLN := Lib.hid hln
                clear hln HL
                have hw97 : IntKind.u8.wrap (97 + (i : Int)) = 97 + (i : Int) := IntWalk.u8_in _ (by omega)
                have hcb : ((UInt8.ofNat (97 + i)).toNat : Int) = 97 + (i : Int) := by rw [UInt8.toNat_ofNat']; omega
                have cvq := one_byte wr (UInt8.ofNat (97 + i)) wr.heap.size rfl
                rw [hcb] at cvq
                clear hcb
                obtain ⟨B1, hB1⟩ : ∃ B1 : ByteArray, ⟨#[UInt8.ofNat (97 + i)]⟩ = B1 := ⟨_, rfl⟩
                have hB1l : B1.data.toList = [UInt8.ofNat (97 + i)] := by rw [← hB1]
                have hB1z : B1.size = 1 := by rw [Lib.size_eq, hB1l]; rfl
                rw [hB1] at cvq
                have HB1 := Lib.hid hB1l
                clear hB1 hB1l
                go_wp2_with fail
                go_roundw
                case rel =>
                  refine ⟨i + 1, _, by omega, by go_num, rfl, ?_, ?_, ?_, hB.alloc hB.size _⟩
                  · rw [namesTo_succ, takeText_snoc, namesTo_len, Nat.zero_add, HN.out]
                    simp only [app_list, HB1.out, HS.out]
                    simp [takeLine]
                  · intro x hx
                    rw [namesTo_succ, HN.out] at hx
                    rcases List.mem_append.1 hx with h | h
                    · exact HALL.out x h
                    · rw [List.mem_singleton.1 h]
                      exact ⟨HLN.out, by intro h0; rw [Lib.size_eq, h0] at t0; exact t0 rfl, by rw [← Lib.size_eq]; omega⟩
                  · rw [Lib.size_eq]
                    simp only [app_list, HB1.out, List.length_append]
                    rw [← Lib.size_eq, ← Lib.size_eq]
                    simp; omega
                case measure => simp [intOf]; omega
      · obtain rfl : i = len := by omega
        have hcall : ∀ (Y : ByteArray) W', Y.data.toList = takeText (namesTo P i) 0 ++ 120 :: rest.data.toList → Env W' → _ := fun Y W' hY hW' => take_text Y rest P i h1 HALL.out W' hW' (by
          have := HS.out
          rw [Lib.size_eq, hY, ← this, List.length_append, List.length_cons, ← Lib.size_eq, ← Lib.size_eq]; omega) hY
        have HC := Lib.hid hcall
        clear hcall HALL
        obtain ⟨R, hR⟩ : ∃ R : ByteArray, ⟨(120 :: rest.data.toList).toArray⟩ = R := ⟨_, rfl⟩
        have hRx : ByteArray.mk #[120] ++ rest = R := by rw [← hR]; exact ba_eq (by simp)
        go_wp2_with fail
        refine (HC.out _ _ (by simp only [app_list, HS.out]; simp) (HE.out.below hB)).mono ?_
        rintro x w4 ⟨ao, g, cp, rfl, ha1, ha2, ha3, b4⟩
        have B4 := below_step hB b4
        rw [hR]
        clear b4 HC hR
        have HA1 := Lib.hid ha1
        have HA2 := Lib.hid ha2
        have HA3 := Lib.hid ha3
        clear ha1 ha2 ha3
        go_wp2_with fail
        go_loopw [90] (fun u90 wr => ∃ j : Nat, j ≤ i ∧ u90 = .int .i64 j ∧ Below w4.heap.size w4 wr) (fun u90 _ => i - (intOf u90).toNat)
        case atStart => exact ⟨0, Nat.zero_le _, rfl, Below.refl _ _⟩
        case round =>
          obtain ⟨j, hj, rfl, hb5⟩ := hrel
          by_cases hji : j < i
          · obtain ⟨b, off, hx1, hx2, hx3, hx4⟩ := HP.out
            have hxa := hx1 (by omega)
            have hxb := hx2 (by omega)
            have hB5 := below_step B4 hb5
            have hga := HA1.out (by omega)
            have hgb := HA2.out (by omega)
            obtain ⟨k0, k1, k4⟩ := HA3.out j hji
            obtain ⟨n, hn⟩ : ∃ n, P j = n := ⟨_, rfl⟩
            rw [hn] at k0
            have hxc : wr.cell? ⟨b, off + j, none⟩ = some (.string n) := by rw [← hn]; exact (hB5.cell (p := ⟨b, off + j, none⟩) hxb).trans (hx3 j hji)
            subst hxa hga
            obtain ⟨B2, hB2⟩ : ∃ B2 : ByteArray, ⟨#[47, 117, UInt8.ofNat (97 + j)]⟩ = B2 := ⟨_, rfl⟩
            obtain ⟨B1, hB1⟩ : ∃ B1 : ByteArray, ⟨#[UInt8.ofNat (97 + j)]⟩ = B1 := ⟨_, rfl⟩
            have hBx : ByteArray.mk #[47, 117] ++ B1 = B2 := by rw [← hB1, ← hB2]; exact ba_eq (by simp)
            have hB1z : B1.size = 1 := by rw [← hB1]; rfl
            rw [hB2] at k1
            have q0 : wr.cell? ⟨g, j * 5, none⟩ = some (.string n) := (hb5.cell (p := ⟨g, j * 5, none⟩) hgb).trans k0
            have q1 : wr.cell? ⟨g, j * 5 + 1, none⟩ = some (.string B2) := (hb5.cell (p := ⟨g, j * 5 + 1, none⟩) hgb).trans k1
            have q4 : wr.cell? ⟨g, j * 5 + 4, none⟩ = some (.bool false) := (hb5.cell (p := ⟨g, j * 5 + 4, none⟩) hgb).trans k4
            have hb6 : Below wr.heap.size wr (wr.alloc (.cells #[.int .u8 (97 + (j : Int))] 5)).drew := ((Below.refl wr.heap.size wr).alloc (Nat.le_refl _) _).drew
            have hgw : g < wr.heap.size := by have := hb5.size; omega
            have r0 : (wr.alloc (.cells #[.int .u8 (97 + (j : Int))] 5)).drew.cell? ⟨g, j * 5, none⟩ = some (.string n) := (hb6.cell (p := ⟨g, j * 5, none⟩) hgw).trans q0
            have r1 : (wr.alloc (.cells #[.int .u8 (97 + (j : Int))] 5)).drew.cell? ⟨g, j * 5 + 1, none⟩ = some (.string B2) := (hb6.cell (p := ⟨g, j * 5 + 1, none⟩) hgw).trans q1
            have r4 : (wr.alloc (.cells #[.int .u8 (97 + (j : Int))] 5)).drew.cell? ⟨g, j * 5 + 4, none⟩ = some (.bool false) := (hb6.cell (p := ⟨g, j * 5 + 4, none⟩) hgw).trans q4
            have hw97 : IntKind.u8.wrap (97 + (j : Int)) = 97 + (j : Int) := IntWalk.u8_in _ (by omega)
            have hcb : ((UInt8.ofNat (97 + j)).toNat : Int) = 97 + (j : Int) := by rw [UInt8.toNat_ofNat']; omega
            have cvq : (convert 25 9 (.slice (some ⟨wr.heap.size, 0, none⟩) 1 1)).run Tryd.prog (wr.alloc (.cells #[.int .u8 (97 + (j : Int))] 5)).drew = .ok (.string B1) (wr.alloc (.cells #[.int .u8 (97 + (j : Int))] 5)).drew := by
              have := one_byte wr.drew (UInt8.ofNat (97 + j)) wr.heap.size rfl
              rw [hcb, hB1] at this
              exact this
            have he3 : (n.toList == n.toList) = true := by simp
            have he4 : (B2.toList == B2.toList) = true := by simp
            clear hx1 hx2 hx3 hn k0 k1 k4 hcb hB1 hB2 hRx
            go_wp2_with fail
            go_region
            clear cvq r0 r1 r4 q0 q1 q4 hb6
            go_wp2_with fail
            go_roundw
            case rel => exact ⟨j + 1, by omega, by go_num, (hb5.alloc hb5.size _).drew⟩
            case measure => simp [intOf]; omega
          · obtain rfl : j = i := by omega
            go_wp2_with fail
            go_ret
            exact ⟨rfl, below_step B4 hb5⟩
  · have hcs : (12 : Int) < (len : Int) ∨ (¬ (12 : Int) < (len : Int) ∧ (60 : Int) < (rest.size : Int)) := by omega
    clear hr
    rcases hcs with t1 | ⟨t1, t2⟩
    all_goals
      go_enter Tryd.func12, Tryd.ntmps12
      go_wp2_with fail
      refine (alive11 _ hE).mono ?_
      rintro e w1 ⟨rfl, b1⟩
      go_wp2_with fail
      go_ret
      exact ⟨rfl, b1⟩

end Go.Proofs.YtmllkffdejojbaaDoor
