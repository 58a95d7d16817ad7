/-
  TokenSigns: each sign of ASCII punctuation behind a backslash is itself; other bytes leave the backslash as it is: the walk of the law.
-/
import Derived.Test.YtmllkffdejojbaaDoorAlive12
import Derived.Test.YtmllkffdejojbaaDoorTokLaw
namespace Go.Proofs.YtmllkffdejojbaaDoor
open Go.RowKit
set_option maxRecDepth 100000
set_option linter.unusedVariables false
set_option linter.unusedSimpArgs false

theorem next0 (s : ByteArray) (w : World) (hE : Env w) (h0 : 0 < s.size) (hs : s.size ≤ 1000000) :
    Calls Tryd.prog 37 #[.string s, .int .i64 0] w fun e w' => e = .returned (.tuple #[(nextL s.data.toList).1.val, .int .i64 (nextL s.data.toList).2]) ∧ Below w.heap.size w w' := by
  have := next_tok s 0 w hE h0 hs
  rw [List.drop_zero, Nat.zero_add] at this
  exact this

set_option maxHeartbeats 4000000 in
theorem law_signs (c : Int) (hc : (Lit.int .u8 c).wf = true) (w : World) (hE : Env w) :
    Calls Tryd.prog 15 #[.int .u8 c] w fun e w' => e = .returned (.bool true) ∧ Below w.heap.size w w' := by
  obtain ⟨d, rfl⟩ : ∃ d : UInt8, c = (d.toNat : Int) := by
    have hg0 := bounds_u8 hc
    exact ⟨UInt8.ofNat c.toNat, by rw [UInt8.toNat_ofNat']; omega⟩
  clear hc
  by_cases h10 : d = 10
  · subst h10
    go_enter Tryd.func15, Tryd.ntmps15
    go_wp2_with fail
    refine (alive12 _ hE).mono ?_
    rintro e w1 ⟨rfl, b1⟩
    go_wp2_with fail
    go_ret
    exact ⟨rfl, b1⟩
  · have h10' : ((d.toNat : Int) == 10) = false := by
      rw [beq_eq_false_iff_ne]
      intro e
      exact h10 (byte_eq (n := 10) (by omega))
    have HE := Lib.hid hE
    have ha := fun W => ascii_any d W
    have cvq := one_byte
    clear hE
    cases hp : asciiP d
    · rw [hp] at ha
      obtain ⟨r, hr, hrl⟩ := next_nosign d hp h10
      obtain ⟨X, hX, hXz⟩ := ba_ex (92 :: r)
      have hX0 : ∀ h, X[0]'h = 92 := fun h => by
        have := Lib.data_getElem? X 0 h
        rw [hX] at this
        simpa using this.symm
      have hXs : 0 < X.size := by rw [hXz]; simp
      obtain ⟨n, hn⟩ : ∃ n, (nextL [92, d]).2 = n := ⟨_, rfl⟩
      have c1 : ∀ (Y : ByteArray) W, Y.data.toList = [92, d] → Env W → Calls Tryd.prog 37 #[.string Y, .int .i64 0] W fun e w' => e = .returned (.tuple #[.iface 88 (.string X), .int .i64 n]) ∧ Below W.heap.size W w' := fun Y W hY hW => by
        have hYz : Y.size = 2 := by rw [Lib.size_eq, hY]; rfl
        have := next0 Y W hW (by omega) (by omega)
        rw [hY, hr, hn, ← hX] at this
        simp only [Tok.val, Lib.mk_data] at this
        exact this
      have k1 : ∀ W, Calls Tryd.prog 35 #[.iface 88 (.string X)] W fun e w' => e = .returned (.agg #[.int .u8 119, .string X, .string ⟨#[]⟩, .int .i64 0]) ∧ Below W.heap.size W w' := fun W => by
        have := tok_tok (.word X.data.toList) W
        simp only [Tok.val, Tok.plain, TokP.val, Lib.mk_data] at this
        exact this
      have HA := Lib.hid ha
      have C1 := Lib.hid c1
      have K1 := Lib.hid k1
      clear c1 k1 hX hXz hp ha hr hn
      go_enter Tryd.func15, Tryd.ntmps15
      go_wp2_with fail
      refine (alive12 _ HE.out).mono ?_
      rintro e w1 ⟨rfl, b1⟩
      go_wp2_with fail
      have B1 := b1.alloc b1.size (.cells #[.int .u8 (d.toNat : Int)] 5)
      refine (C1.out _ _ (by simp only [app_list]; simp) (HE.out.below B1)).mono ?_
      rintro e w2 ⟨rfl, b2⟩
      have B2 := below_step B1 b2
      go_wp2_with fail
      refine (K1.out _).mono ?_
      rintro e w3 ⟨rfl, b3⟩
      have B3 := below_step B2 b3
      go_wp2_with fail
      have B4 := B3.alloc B3.size (.cells #[.int .u8 119, .string X, .string ⟨#[]⟩, .int .i64 0] 52)
      refine (HA.out _).mono ?_
      rintro e w4 ⟨rfl, b4⟩
      have d0 := (b4.cell (p := ⟨w3.heap.size, 0, none⟩) (by simp)).trans (show (w3.alloc (.cells #[.int .u8 119, .string X, .string ⟨#[]⟩, .int .i64 0] 52)).cell? ⟨w3.heap.size, 0, none⟩ = some (.int .u8 119) by simp)
      have d1 := (b4.cell (p := ⟨w3.heap.size, 1, none⟩) (by simp)).trans (show (w3.alloc (.cells #[.int .u8 119, .string X, .string ⟨#[]⟩, .int .i64 0] 52)).cell? ⟨w3.heap.size, 1, none⟩ = some (.string X) by simp)
      have B5 := below_step B4 b4
      go_wp2_with fail
      go_ret
      exact ⟨ret_bool (by first | rfl | (simp; done)), B5⟩
    · rw [hp] at ha
      have c1 : ∀ (Y : ByteArray) W, Y.data.toList = [92, d] → Env W → Calls Tryd.prog 37 #[.string Y, .int .i64 0] W fun e w' => e = .returned (.tuple #[.iface 88 (.string ⟨#[d]⟩), .int .i64 2]) ∧ Below W.heap.size W w' := fun Y W hY hW => by
        have hYz : Y.size = 2 := by rw [Lib.size_eq, hY]; rfl
        have := next0 Y W hW (by omega) (by omega)
        rw [hY, next_sign d hp] at this
        exact this
      have k1 : ∀ W, Calls Tryd.prog 35 #[.iface 88 (.string ⟨#[d]⟩)] W fun e w' => e = .returned (.agg #[.int .u8 119, .string ⟨#[d]⟩, .string ⟨#[]⟩, .int .i64 0]) ∧ Below W.heap.size W w' := fun W => tok_tok (.word [d]) W
      have HA := Lib.hid ha
      have C1 := Lib.hid c1
      have K1 := Lib.hid k1
      clear c1 k1 hp ha
      go_enter Tryd.func15, Tryd.ntmps15
      go_wp2_with fail
      refine (alive12 _ HE.out).mono ?_
      rintro e w1 ⟨rfl, b1⟩
      go_wp2_with fail
      have B1 := b1.alloc b1.size (.cells #[.int .u8 (d.toNat : Int)] 5)
      refine (C1.out _ _ (by simp only [app_list]; simp) (HE.out.below B1)).mono ?_
      rintro e w2 ⟨rfl, b2⟩
      have B2 := below_step B1 b2
      go_wp2_with fail
      refine (K1.out _).mono ?_
      rintro e w3 ⟨rfl, b3⟩
      have B3 := below_step B2 b3
      go_wp2_with fail
      have B4 := B3.alloc B3.size (.cells #[.int .u8 119, .string ⟨#[d]⟩, .string ⟨#[]⟩, .int .i64 0] 52)
      refine (HA.out _).mono ?_
      rintro e w4 ⟨rfl, b4⟩
      have d0 := (b4.cell (p := ⟨w3.heap.size, 0, none⟩) (by simp)).trans (show (w3.alloc (.cells #[.int .u8 119, .string ⟨#[d]⟩, .string ⟨#[]⟩, .int .i64 0] 52)).cell? ⟨w3.heap.size, 0, none⟩ = some (.int .u8 119) by simp)
      have d1 := (b4.cell (p := ⟨w3.heap.size, 1, none⟩) (by simp)).trans (show (w3.alloc (.cells #[.int .u8 119, .string ⟨#[d]⟩, .string ⟨#[]⟩, .int .i64 0] 52)).cell? ⟨w3.heap.size, 1, none⟩ = some (.string ⟨#[d]⟩) by simp)
      have d2 := (b4.cell (p := ⟨w3.heap.size, 2, none⟩) (by simp)).trans (show (w3.alloc (.cells #[.int .u8 119, .string ⟨#[d]⟩, .string ⟨#[]⟩, .int .i64 0] 52)).cell? ⟨w3.heap.size, 2, none⟩ = some (.string ⟨#[]⟩) by simp)
      have d3 := (b4.cell (p := ⟨w3.heap.size, 3, none⟩) (by simp)).trans (show (w3.alloc (.cells #[.int .u8 119, .string ⟨#[d]⟩, .string ⟨#[]⟩, .int .i64 0] 52)).cell? ⟨w3.heap.size, 3, none⟩ = some (.int .i64 0) by simp)
      have B5 := below_step B4 b4
      go_wp2_with fail
      go_ret
      exact ⟨ret_bool (by first | rfl | (simp; done)), B5.alloc B5.size _⟩

end Go.Proofs.YtmllkffdejojbaaDoor
