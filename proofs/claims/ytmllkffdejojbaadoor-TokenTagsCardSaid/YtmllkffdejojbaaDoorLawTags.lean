/-
  TokenTags: a sign of HTML is a token as a whole; one that is not ended is none: the walk of the law.
-/
import Derived.Test.YtmllkffdejojbaaDoorLawEnts
namespace Go.Proofs.YtmllkffdejojbaaDoor
open Go.RowKit
set_option maxRecDepth 100000
set_option linter.unusedVariables false
set_option linter.unusedSimpArgs false

theorem tok_tag (X : ByteArray) (W : World) : Calls Tryd.prog 35 #[.iface 90 (.string X)] W fun e w' => e = .returned (.agg #[.int .u8 116, .string X, .string ⟨#[]⟩, .int .i64 0]) ∧ Below W.heap.size W w' := by
  have := tok_tok (.tag X.data.toList) W
  simp only [Tok.val, Tok.plain, TokP.val, Lib.mk_data] at this
  exact this

/-- No byte that a sign may not have. -/
def TagRest (l : List UInt8) : Prop := ∀ b ∈ l, b ≠ 60 ∧ b ≠ 62 ∧ b ≠ 0
theorem tagRest_take {l : List UInt8} {k : Nat} {c : UInt8} (h : TagRest (l.take k)) (hk : l[k]? = some c) (hc : c ≠ 60 ∧ c ≠ 62 ∧ c ≠ 0) : TagRest (l.take (k + 1)) := by
  intro b hb
  obtain ⟨hlt, he⟩ := List.getElem?_eq_some_iff.1 hk
  rw [List.take_succ_eq_append_getElem hlt] at hb
  rcases List.mem_append.1 hb with e | e
  · exact h b e
  · rw [List.mem_singleton.1 e, he]; exact hc

set_option maxHeartbeats 8000000 in
theorem law_tags (n r : ByteArray) (en : Bool) (w : World) (hE : Env w) :
    Calls Tryd.prog 19 #[.string n, .string r, .bool en] w fun e w' => e = .returned (.bool true) ∧ Below w.heap.size w w' := by
  by_cases hr : (0 < n.size ∧ n.size ≤ 20) ∧ r.size ≤ 30
  · obtain ⟨⟨h1, h2⟩, h3⟩ := hr
    have h1' := empty_no h1
    have h2' : ¬ (20 : Int) < (n.size : Int) := by omega
    have h3' : ¬ (30 : Int) < (r.size : Int) := by omega
    have HE := Lib.hid hE
    clear hE
    go_enter Tryd.func19, Tryd.ntmps19
    go_wp2_with fail
    refine (alive12 _ HE.out).mono ?_
    rintro e w1 ⟨rfl, b1⟩
    go_wp2_with fail
    go_loop [7] (fun ui => ∃ i : Nat, i ≤ (n).size ∧ ui = .int .i64 i ∧ Letters ((n).data.toList.take i)) (fun ui => (n).size - (intOf ui).toNat)
    case atStart => exact ⟨0, Nat.zero_le _, rfl, fun b hb => by simp at hb⟩
    case round =>
      obtain ⟨i, hi, rfl, hl⟩ := hrel
      have HL := Lib.hid hl
      clear hl
      by_cases hlt : i < (n).size
      · have hg := Lib.data_getElem? n i hlt
        obtain ⟨d, hd⟩ : ∃ d, (n)[i] = d := ⟨_, rfl⟩
        rw [hd] at hg
        have HG := Lib.hid hg
        clear hg
        by_cases t1 : (d.toNat : Int) < 97
        · go_wp2_with fail
          go_ret
          exact ⟨rfl, b1⟩
        · by_cases t2 : (122 : Int) < (d.toNat : Int)
          · go_wp2_with fail
            go_ret
            exact ⟨rfl, b1⟩
          · have HN := Lib.hid (letters_take HL.out HG.out (by omega))
            go_wp2_with fail
            go_round
            case rel => exact ⟨i + 1, by omega, by go_num, HN.out⟩
            case measure => simp [intOf]; omega
      · obtain rfl : i = n.size := by omega
        have hln : Letters n.data.toList := by have := HL.out; rwa [take_all] at this
        have HLN := Lib.hid hln
        clear hln HL
        go_wp2_with fail
        go_loop [8] (fun u8 => ∃ k : Nat, k ≤ r.size ∧ u8 = .int .i64 k ∧ TagRest (r.data.toList.take k)) (fun u8 => r.size - (intOf u8).toNat)
        case atStart => exact ⟨0, Nat.zero_le _, rfl, fun b hb => by simp at hb⟩
        case round =>
          obtain ⟨k, hk, rfl, hl⟩ := hrel
          have HL := Lib.hid hl
          clear hl
          by_cases hkt : k < r.size
          · have hg := Lib.data_getElem? r k hkt
            obtain ⟨d, hd⟩ : ∃ d, r[k] = d := ⟨_, rfl⟩
            rw [hd] at hg
            have HG := Lib.hid hg
            clear hg
            by_cases q1 : d = 60
            · subst q1
              go_wp2_with fail
              go_ret
              exact ⟨rfl, b1⟩
            · have q1' : ((d.toNat : Int) == 60) = false := by
                rw [beq_eq_false_iff_ne]; intro e; exact q1 (byte_eq (n := 60) (by omega))
              by_cases q2 : d = 62
              · subst q2
                go_wp2_with fail
                go_ret
                exact ⟨rfl, b1⟩
              · have q2' : ((d.toNat : Int) == 62) = false := by
                  rw [beq_eq_false_iff_ne]; intro e; exact q2 (byte_eq (n := 62) (by omega))
                by_cases q3 : d = 0
                · subst q3
                  go_wp2_with fail
                  go_ret
                  exact ⟨rfl, b1⟩
                · have q3' : ((d.toNat : Int) == 0) = false := by
                    rw [beq_eq_false_iff_ne]; intro e; exact q3 (byte_eq (n := 0) (by omega))
                  have HM := Lib.hid (tagRest_take HL.out HG.out ⟨q1, q2, q3⟩)
                  go_wp2_with fail
                  go_round
                  case rel => exact ⟨k + 1, by omega, by go_num, HM.out⟩
                  case measure => simp [intOf]; omega
          · obtain rfl : k = r.size := by omega
            have hrr : ∀ b ∈ r.data.toList, b ≠ 60 ∧ b ≠ 62 ∧ b ≠ 0 := by have := HL.out; rw [take_all] at this; exact this
            have hln := HLN.out
            have hnz : n.data.toList.length = n.size := (Lib.size_eq n).symm
            have hrz : r.data.toList.length = r.size := (Lib.size_eq r).symm
            have hn0 : n.data.toList ≠ [] := by intro h; rw [h] at hnz; simp at hnz; omega
            cases en
            · have hsl : (tagHead false n.data.toList).length ≤ 22 := by rw [tagHead_len]; simp; omega
              have c1 : ∀ (Y S T : ByteArray) W, S.data.toList = tagHead false n.data.toList → T.data.toList = tagHead false n.data.toList ++ 32 :: (r.data.toList ++ [62]) → Y.data.toList = tagHead false n.data.toList ++ 32 :: (r.data.toList ++ 62 :: [120]) → Env W → Calls Tryd.prog 37 #[.string Y, .int .i64 0] W fun e w' => e = .returned (.tuple #[.iface 90 (.string T), .int .i64 ((S.size + r.size + 2 : Nat) : Int)]) ∧ Below W.heap.size W w' := fun Y S T W hS hT hY hW => by
                have hYz : Y.size = (tagHead false n.data.toList).length + r.size + 3 := by rw [Lib.size_eq, hY]; simp; omega
                have := next0 Y W hW (by omega) (by omega)
                rw [hY, next_tag false _ _ [120] hln hn0 hrr, ← hT, ← hS, ← Lib.size_eq, hrz] at this
                simp only [Tok.val, Lib.mk_data] at this
                exact this
              have c2 : ∀ (Y S : ByteArray) W, S.data.toList = tagHead false n.data.toList → Y.data.toList = tagHead false n.data.toList ++ [62] → Env W → Calls Tryd.prog 37 #[.string Y, .int .i64 0] W fun e w' => e = .returned (.tuple #[.iface 90 (.string Y), .int .i64 ((S.size + 1 : Nat) : Int)]) ∧ Below W.heap.size W w' := fun Y S W hS hY hW => by
                have hYz : Y.size = (tagHead false n.data.toList).length + 1 := by rw [Lib.size_eq, hY]; simp
                have := next0 Y W hW (by omega) (by omega)
                rw [hY, next_tag0 false _ hln hn0, ← hY, ← hS, ← Lib.size_eq] at this
                simp only [Tok.val, Lib.mk_data] at this
                exact this
              have c3 : ∀ (Y : ByteArray) W, Y.data.toList = tagHead false n.data.toList ++ 32 :: r.data.toList → Env W → Calls Tryd.prog 37 #[.string Y, .int .i64 0] W fun e w' => ∃ (X : ByteArray) (k : Nat), e = .returned (.tuple #[.iface 88 (.string X), .int .i64 k]) ∧ Below W.heap.size W w' := fun Y W hY hW => by
                have hYz : Y.size = (tagHead false n.data.toList).length + r.size + 1 := by rw [Lib.size_eq, hY]; simp; omega
                obtain ⟨l, k, hlk⟩ := next_notag false _ _ hln hn0 hrr
                refine (next0 Y W hW (by omega) (by omega)).mono ?_
                rintro e w' ⟨rfl, hb⟩
                rw [hY, hlk]
                exact ⟨⟨l.toArray⟩, k, rfl, hb⟩
              have C1 := Lib.hid c1
              have C2 := Lib.hid c2
              have C3 := Lib.hid c3
              have g0 := tok_field0
              clear c1 c2 c3 hln hrr hn0 hnz hrz hsl
              go_wp2_with fail
              refine (C1.out _ (⟨#[60]⟩ ++ n) ((⟨#[60]⟩ ++ n) ++ ⟨#[32]⟩ ++ r ++ ⟨#[62]⟩) _ (by simp only [app_list]; simp [tagHead]) (by simp only [app_list]; simp [tagHead]) (by simp only [app_list]; simp [tagHead]) (HE.out.below b1)).mono ?_
              rintro e w3 ⟨rfl, b3⟩
              have B3 := below_step b1 b3
              go_wp2_with fail
              refine (C2.out _ (⟨#[60]⟩ ++ n) _ (by simp only [app_list]; simp [tagHead]) (by simp only [app_list]; simp [tagHead]) (HE.out.below B3)).mono ?_
              rintro e w4 ⟨rfl, b4⟩
              have B4 := below_step B3 b4
              go_wp2_with fail
              refine (C3.out _ _ (by simp only [app_list]; simp [tagHead]) (HE.out.below B4)).mono ?_
              rintro e w5 ⟨X, k, rfl, b5⟩
              have B5 := below_step B4 b5
              go_wp2_with fail
              refine (tok_tag _ _).mono ?_
              rintro e w6 ⟨rfl, b6⟩
              have B6 := below_step B5 b6
              go_wp2_with fail
              refine (tok_tag _ _).mono ?_
              rintro e w7 ⟨rfl, b7⟩
              have B7 := below_step B6 b7
              go_wp2_with fail
              refine (tok_word _ _).mono ?_
              rintro e w8 ⟨rfl, b8⟩
              have B8 := below_step B7 b8
              go_wp2_with fail
              go_ret
              exact ⟨ret_bool (by first | rfl | (simp; done) | (simp; omega)), B8⟩
            · have hsl : (tagHead true n.data.toList).length ≤ 22 := by rw [tagHead_len]; simp; omega
              have c1 : ∀ (Y S T : ByteArray) W, S.data.toList = tagHead true n.data.toList → T.data.toList = tagHead true n.data.toList ++ 32 :: (r.data.toList ++ [62]) → Y.data.toList = tagHead true n.data.toList ++ 32 :: (r.data.toList ++ 62 :: [120]) → Env W → Calls Tryd.prog 37 #[.string Y, .int .i64 0] W fun e w' => e = .returned (.tuple #[.iface 90 (.string T), .int .i64 ((S.size + r.size + 2 : Nat) : Int)]) ∧ Below W.heap.size W w' := fun Y S T W hS hT hY hW => by
                have hYz : Y.size = (tagHead true n.data.toList).length + r.size + 3 := by rw [Lib.size_eq, hY]; simp; omega
                have := next0 Y W hW (by omega) (by omega)
                rw [hY, next_tag true _ _ [120] hln hn0 hrr, ← hT, ← hS, ← Lib.size_eq, hrz] at this
                simp only [Tok.val, Lib.mk_data] at this
                exact this
              have c2 : ∀ (Y S : ByteArray) W, S.data.toList = tagHead true n.data.toList → Y.data.toList = tagHead true n.data.toList ++ [62] → Env W → Calls Tryd.prog 37 #[.string Y, .int .i64 0] W fun e w' => e = .returned (.tuple #[.iface 90 (.string Y), .int .i64 ((S.size + 1 : Nat) : Int)]) ∧ Below W.heap.size W w' := fun Y S W hS hY hW => by
                have hYz : Y.size = (tagHead true n.data.toList).length + 1 := by rw [Lib.size_eq, hY]; simp
                have := next0 Y W hW (by omega) (by omega)
                rw [hY, next_tag0 true _ hln hn0, ← hY, ← hS, ← Lib.size_eq] at this
                simp only [Tok.val, Lib.mk_data] at this
                exact this
              have c3 : ∀ (Y : ByteArray) W, Y.data.toList = tagHead true n.data.toList ++ 32 :: r.data.toList → Env W → Calls Tryd.prog 37 #[.string Y, .int .i64 0] W fun e w' => ∃ (X : ByteArray) (k : Nat), e = .returned (.tuple #[.iface 88 (.string X), .int .i64 k]) ∧ Below W.heap.size W w' := fun Y W hY hW => by
                have hYz : Y.size = (tagHead true n.data.toList).length + r.size + 1 := by rw [Lib.size_eq, hY]; simp; omega
                obtain ⟨l, k, hlk⟩ := next_notag true _ _ hln hn0 hrr
                refine (next0 Y W hW (by omega) (by omega)).mono ?_
                rintro e w' ⟨rfl, hb⟩
                rw [hY, hlk]
                exact ⟨⟨l.toArray⟩, k, rfl, hb⟩
              have C1 := Lib.hid c1
              have C2 := Lib.hid c2
              have C3 := Lib.hid c3
              have g0 := tok_field0
              clear c1 c2 c3 hln hrr hn0 hnz hrz hsl
              go_wp2_with fail
              refine (C1.out _ (⟨#[60]⟩ ++ ⟨#[47]⟩ ++ n) ((⟨#[60]⟩ ++ ⟨#[47]⟩ ++ n) ++ ⟨#[32]⟩ ++ r ++ ⟨#[62]⟩) _ (by simp only [app_list]; simp [tagHead]) (by simp only [app_list]; simp [tagHead]) (by simp only [app_list]; simp [tagHead]) (HE.out.below b1)).mono ?_
              rintro e w3 ⟨rfl, b3⟩
              have B3 := below_step b1 b3
              go_wp2_with fail
              refine (C2.out _ (⟨#[60]⟩ ++ ⟨#[47]⟩ ++ n) _ (by simp only [app_list]; simp [tagHead]) (by simp only [app_list]; simp [tagHead]) (HE.out.below B3)).mono ?_
              rintro e w4 ⟨rfl, b4⟩
              have B4 := below_step B3 b4
              go_wp2_with fail
              refine (C3.out _ _ (by simp only [app_list]; simp [tagHead]) (HE.out.below B4)).mono ?_
              rintro e w5 ⟨X, k, rfl, b5⟩
              have B5 := below_step B4 b5
              go_wp2_with fail
              refine (tok_tag _ _).mono ?_
              rintro e w6 ⟨rfl, b6⟩
              have B6 := below_step B5 b6
              go_wp2_with fail
              refine (tok_tag _ _).mono ?_
              rintro e w7 ⟨rfl, b7⟩
              have B7 := below_step B6 b7
              go_wp2_with fail
              refine (tok_word _ _).mono ?_
              rintro e w8 ⟨rfl, b8⟩
              have B8 := below_step B7 b8
              go_wp2_with fail
              go_ret
              exact ⟨ret_bool (by first | rfl | (simp; done) | (simp; omega)), B8⟩
  · have hcs : n.size = 0 ∨ (0 < n.size ∧ (20 : Int) < (n.size : Int)) ∨ (0 < n.size ∧ ¬ (20 : Int) < (n.size : Int) ∧ (30 : Int) < (r.size : Int)) := by omega
    clear hr
    rcases hcs with t1 | ⟨t1, t2⟩ | ⟨t1, t2, t3⟩
    · have he := empty_yes t1
      go_enter Tryd.func19, Tryd.ntmps19
      go_wp2_with fail
      refine (alive12 _ hE).mono ?_
      rintro e w1 ⟨rfl, b1⟩
      go_wp2_with fail
      go_ret
      exact ⟨rfl, b1⟩
    · have he := empty_no t1
      go_enter Tryd.func19, Tryd.ntmps19
      go_wp2_with fail
      refine (alive12 _ hE).mono ?_
      rintro e w1 ⟨rfl, b1⟩
      go_wp2_with fail
      go_ret
      exact ⟨rfl, b1⟩
    · have he := empty_no t1
      go_enter Tryd.func19, Tryd.ntmps19
      go_wp2_with fail
      refine (alive12 _ hE).mono ?_
      rintro e w1 ⟨rfl, b1⟩
      go_wp2_with fail
      go_ret
      exact ⟨rfl, b1⟩

end Go.Proofs.YtmllkffdejojbaaDoor
