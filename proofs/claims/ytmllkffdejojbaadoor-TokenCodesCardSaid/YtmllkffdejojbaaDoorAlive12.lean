/-
  bowdlerlaw12.alive: the first call whose answer the document fixes.
-/
import Derived.Test.YtmllkffdejojbaaDoorTokPan
namespace Go.Proofs.YtmllkffdejojbaaDoor
open Go.RowKit
set_option maxRecDepth 100000
set_option linter.unusedVariables false
set_option linter.unusedSimpArgs false

/-- The tokens that All handed back, cell by cell. -/
theorem toks_at {w w' : World} {B : Nat} {v : Value} {l : List Tok} (hown : w'.ownsRow B 20 1 v l.length (l.map Tok.val)) (h0 : 0 < l.length) :
    ∃ g cap, v = .slice (some ⟨g, 0, none⟩) l.length cap ∧ g < w'.heap.size ∧ ∀ j t, l[j]? = some t → w'.cell? ⟨g, j, none⟩ = some t.val := by
  rcases hown.2 with ⟨_, e0⟩ | ⟨g, cap, cur, rfl, hg, hh, r⟩
  · omega
  · refine ⟨g, cap, rfl, (Array.getElem?_eq_some_iff.1 hh).1, fun j t hj => ?_⟩
    have hlt : j < l.length := by
      rcases Nat.lt_or_ge j l.length with h | h
      · exact h
      · rw [List.getElem?_eq_none h] at hj; cases hj
    rw [hown.cellAt j (by omega), List.getElem?_map, hj]
    rfl

theorem tok_field0 (k : Int) (a b : ByteArray) (n : Int) (W : World) : (Instr.field 52 (.agg #[.int .u8 k, .string a, .string b, .int .i64 n]) 0).run Tryd.prog W = .ok (.int .u8 k) W := by kernel_rfl
theorem tok_field1 (k : Int) (a b : ByteArray) (n : Int) (W : World) : (Instr.field 52 (.agg #[.int .u8 k, .string a, .string b, .int .i64 n]) 1).run Tryd.prog W = .ok (.string a) W := by kernel_rfl

theorem alive_toks : allL 5 [97, 32, 42, 98] = [.word [97], .word [32], .run 42 1, .word [98]] := by decide +kernel

set_option maxHeartbeats 4000000 in
theorem alive12 (w : World) (hE : Env w) : Calls Tryd.prog 33 #[] w fun e w' => e = .returned (.bool true) ∧ Below w.heap.size w w' := by
  have c1 : Calls Tryd.prog 34 #[.string ⟨#[97, 32, 42, 98]⟩] w fun e w' => ∃ g cap, e = .returned (.slice (some ⟨g, 0, none⟩) 4 cap) ∧ g < w'.heap.size ∧ (w'.cell? ⟨g, 0, none⟩ = some (.iface 88 (.string ⟨#[97]⟩)) ∧ w'.cell? ⟨g, 1, none⟩ = some (.iface 88 (.string ⟨#[32]⟩)) ∧
      w'.cell? ⟨g, 2, none⟩ = some (.iface 94 (.agg #[.int .u8 42, .int .i64 1])) ∧ w'.cell? ⟨g, 3, none⟩ = some (.iface 88 (.string ⟨#[98]⟩))) ∧ Below w.heap.size w w' := by
    refine (all_tok ⟨#[97, 32, 42, 98]⟩ w hE (by decide)).mono ?_
    rintro e w' ⟨v, rfl, hown, hb⟩
    rw [show (ByteArray.mk #[97, 32, 42, 98]).data.toList = [97, 32, 42, 98] from rfl, show (ByteArray.mk #[97, 32, 42, 98]).size + 1 = 5 from rfl, alive_toks] at hown
    obtain ⟨g, cap, rfl, hg, hc⟩ := toks_at (w := w) hown (by decide)
    exact ⟨g, cap, rfl, hg, ⟨hc 0 _ rfl, hc 1 _ rfl, hc 2 _ rfl, hc 3 _ rfl⟩, hb⟩
  have k1 : ∀ W, Calls Tryd.prog 35 #[.iface 88 (.string ⟨#[97]⟩)] W fun e w' => e = .returned (.agg #[.int .u8 119, .string ⟨#[97]⟩, .string ⟨#[]⟩, .int .i64 0]) ∧ Below W.heap.size W w' := fun W => tok_tok (.word [97]) W
  have k2 : ∀ W, Calls Tryd.prog 35 #[.iface 88 (.string ⟨#[32]⟩)] W fun e w' => e = .returned (.agg #[.int .u8 119, .string ⟨#[32]⟩, .string ⟨#[]⟩, .int .i64 0]) ∧ Below W.heap.size W w' := fun W => tok_tok (.word [32]) W
  have k3 : ∀ W, Calls Tryd.prog 35 #[.iface 94 (.agg #[.int .u8 42, .int .i64 1])] W fun e w' => e = .returned (.agg #[.int .u8 114, .string ⟨#[42]⟩, .string ⟨#[]⟩, .int .i64 1]) ∧ Below W.heap.size W w' := fun W => tok_tok (.run 42 1) W
  have k4 : ∀ W, Calls Tryd.prog 36 #[.iface 88 (.string ⟨#[98]⟩)] W fun e w' => e = .returned (.string ⟨#[98]⟩) ∧ w' = W := fun W => must_word [98] W
  have C1 := Lib.hid c1
  have K1 := Lib.hid k1
  have K2 := Lib.hid k2
  have K3 := Lib.hid k3
  have K4 := Lib.hid k4
  clear c1 k1 k2 k3 k4
  have g0 := tok_field0
  have g1 := tok_field1
  go_enter Tryd.func33, Tryd.ntmps33
  go_wp2_with fail
  refine C1.out.mono ?_
  rintro e w1 ⟨g, cap, rfl, hg, ⟨d0, d1, d2, d3⟩, b1⟩
  go_wp2_with fail
  refine (K1.out _).mono ?_
  rintro e w2 ⟨rfl, b2⟩
  have d1 := (b2.cell (p := ⟨g, 1, none⟩) hg).trans d1
  have d2 := (b2.cell (p := ⟨g, 2, none⟩) hg).trans d2
  have d3 := (b2.cell (p := ⟨g, 3, none⟩) hg).trans d3
  have hg2 : g < w2.heap.size := by have := b2.size; omega
  have B2 := below_step b1 b2
  clear d0
  go_wp2_with fail
  refine (K2.out _).mono ?_
  rintro e w3 ⟨rfl, b3⟩
  have d2 := (b3.cell (p := ⟨g, 2, none⟩) hg2).trans d2
  have d3 := (b3.cell (p := ⟨g, 3, none⟩) hg2).trans d3
  have hg3 : g < w3.heap.size := by have := b3.size; omega
  have B3 := below_step B2 b3
  clear d1
  go_wp2_with fail
  refine (K3.out _).mono ?_
  rintro e w4 ⟨rfl, b4⟩
  have d3 := (b4.cell (p := ⟨g, 3, none⟩) hg3).trans d3
  have B4 := below_step B3 b4
  clear d2
  go_wp2_with fail
  refine (K4.out _).mono ?_
  rintro e w' ⟨rfl, hw'⟩
  obtain rfl := hw'.symm
  go_wp2_with fail
  refine (panics_five _).mono ?_
  rintro e w5 ⟨rfl, b5⟩
  have B5 := below_step B4 b5
  go_wp2_with fail
  go_ret
  exact ⟨ret_bool (by first | rfl | (simp [Lib.toList_data]; done)), B5⟩

end Go.Proofs.YtmllkffdejojbaaDoor
