/-
  The reference's Names, digit, Entity.
-/
import Derived.Test.YtnlmfoccdmkncaaGreatDoorEntLaw
import Derived.Test.YtnlmfoccdmkncaaGreatDoorDefD
import Derived.Deep.QuietTactic
import Derived.BigQuiet
namespace Go.Proofs.YtnlmfoccdmkncaaGreatDoor
open Go.RowKit
set_option maxRecDepth 100000
set_option linter.unusedVariables false
set_option linter.unusedSimpArgs false

def rnamesObj : Obj := .cells #[.string ⟨#[97, 109, 112]⟩, .string ⟨#[108, 116]⟩, .string ⟨#[103, 116]⟩, .string ⟨#[113, 117, 111, 116]⟩, .string ⟨#[97, 112, 111, 115]⟩, .string ⟨#[110, 98, 115, 112]⟩, .string ⟨#[99, 111, 112, 121]⟩, .string ⟨#[114, 101, 103]⟩, .string ⟨#[100, 101, 103]⟩, .string ⟨#[115, 101, 99, 116]⟩, .string ⟨#[112, 97, 114, 97]⟩, .string ⟨#[109, 105, 100, 100, 111, 116]⟩, .string ⟨#[101, 97, 99, 117, 116, 101]⟩, .string ⟨#[97, 117, 109, 108]⟩, .string ⟨#[111, 117, 109, 108]⟩, .string ⟨#[117, 117, 109, 108]⟩, .string ⟨#[115, 122, 108, 105, 103]⟩, .string ⟨#[110, 100, 97, 115, 104]⟩, .string ⟨#[109, 100, 97, 115, 104]⟩, .string ⟨#[104, 101, 108, 108, 105, 112]⟩, .string ⟨#[101, 117, 114, 111]⟩, .string ⟨#[108, 97, 114, 114]⟩, .string ⟨#[114, 97, 114, 114]⟩] 9
theorem rname_cell (w : World) (k : Nat) (hk : k < 23) : (w.alloc rnamesObj).cell? ⟨w.heap.size, k, none⟩ = some (.string ⟨(entNames.getD k []).toArray⟩) := by
  unfold rnamesObj
  rw [World.cell?_alloc_at _ _ _ _ rfl]
  have : k = 0 ∨ k = 1 ∨ k = 2 ∨ k = 3 ∨ k = 4 ∨ k = 5 ∨ k = 6 ∨ k = 7 ∨ k = 8 ∨ k = 9 ∨ k = 10 ∨ k = 11 ∨ k = 12 ∨ k = 13 ∨ k = 14 ∨ k = 15 ∨ k = 16 ∨ k = 17 ∨ k = 18 ∨ k = 19 ∨ k = 20 ∨ k = 21 ∨ k = 22 := by omega
  rcases this with rfl | rfl | rfl | rfl | rfl | rfl | rfl | rfl | rfl | rfl | rfl | rfl | rfl | rfl | rfl | rfl | rfl | rfl | rfl | rfl | rfl | rfl | rfl <;> rfl

/-- The two lists of Names in memory. -/
def EntAtW (w : World) (A R : Nat) : Prop := A < w.heap.size ∧ R < w.heap.size ∧ ∀ k, k < 23 → w.cell? ⟨A, k, none⟩ = some (.string ⟨(entNames.getD k []).toArray⟩) ∧ w.cell? ⟨R, k, none⟩ = some (.int .i32 (entRunes.getD k 0))
def NamesR (w : World) (e : Ending) (w' : World) : Prop := ∃ A R, e = .returned (.tuple #[.slice (some ⟨A, 0, none⟩) 23 23, .slice (some ⟨R, 0, none⟩) 23 23]) ∧ EntAtW w' A R ∧ Below w.heap.size w w'
theorem EntAtW.below {w w' : World} {A R : Nat} (h : EntAtW w A R) (hb : Below w.heap.size w w') : EntAtW w' A R :=
  ⟨Nat.lt_of_lt_of_le h.1 hb.size, Nat.lt_of_lt_of_le h.2.1 hb.size, fun k hk => ⟨(hb.cell (p := ⟨A, k, none⟩) h.1).trans (h.2.2 k hk).1, (hb.cell (p := ⟨R, k, none⟩) h.2.1).trans (h.2.2 k hk).2⟩⟩

theorem rnames_any (w : World) : Calls Tryz.prog 134 #[] w (NamesR w) := by
  have h1 := rname_cell w
  have h2 := rune_cell (w.alloc rnamesObj)
  have hE : EntAtW ((w.alloc rnamesObj).alloc runesObj) w.heap.size (w.heap.size + 1) := by
    refine ⟨by simp; omega, by simp, fun k hk => ⟨?_, ?_⟩⟩
    · exact (((Below.refl (w.alloc rnamesObj).heap.size (w.alloc rnamesObj)).alloc (Nat.le_refl _) runesObj).cell (p := ⟨w.heap.size, k, none⟩) (by simp)).trans (h1 k hk)
    · have := h2 k hk
      rw [World.size_alloc] at this
      exact this
  have HE := Lib.hid hE
  clear h1 h2 hE
  go_enter Tryz.func134, Tryz.ntmps134
  go_wp2_with fail
  go_ret2
  exact ⟨_, _, rfl, HE.out, ((Below.refl _ w).alloc (Nat.le_refl _) rnamesObj).alloc (by simp) runesObj⟩

def baseOf (hex : Bool) : Nat := if hex then 16 else 10
def digR (hex : Bool) (c : UInt8) : Int := if isDig (baseOf hex) c then (digV c : Int) else -1
theorem digR_facts (c : UInt8) : (c.toNat < 48 ∧ digR true c = -1 ∧ digR false c = -1) ∨ (48 ≤ c.toNat ∧ c.toNat ≤ 57 ∧ digR true c = (c.toNat : Int) - 48 ∧ digR false c = (c.toNat : Int) - 48) ∨ (57 < c.toNat ∧ c.toNat < 65 ∧ digR true c = -1 ∧ digR false c = -1) ∨ (65 ≤ c.toNat ∧ c.toNat ≤ 70 ∧ digR true c = (c.toNat : Int) - 65 + 10 ∧ digR false c = -1) ∨ (70 < c.toNat ∧ c.toNat < 97 ∧ digR true c = -1 ∧ digR false c = -1) ∨ (97 ≤ c.toNat ∧ c.toNat ≤ 102 ∧ digR true c = (c.toNat : Int) - 97 + 10 ∧ digR false c = -1) ∨ (102 < c.toNat ∧ digR true c = -1 ∧ digR false c = -1) :=
  allB (p := fun c => (c.toNat < 48 ∧ digR true c = -1 ∧ digR false c = -1) ∨ (48 ≤ c.toNat ∧ c.toNat ≤ 57 ∧ digR true c = (c.toNat : Int) - 48 ∧ digR false c = (c.toNat : Int) - 48) ∨ (57 < c.toNat ∧ c.toNat < 65 ∧ digR true c = -1 ∧ digR false c = -1) ∨ (65 ≤ c.toNat ∧ c.toNat ≤ 70 ∧ digR true c = (c.toNat : Int) - 65 + 10 ∧ digR false c = -1) ∨ (70 < c.toNat ∧ c.toNat < 97 ∧ digR true c = -1 ∧ digR false c = -1) ∨ (97 ≤ c.toNat ∧ c.toNat ≤ 102 ∧ digR true c = (c.toNat : Int) - 97 + 10 ∧ digR false c = -1) ∨ (102 < c.toNat ∧ digR true c = -1 ∧ digR false c = -1)) (by unfold AllB; decide +kernel) c

set_option maxHeartbeats 4000000 in
theorem rdigit_any (c : UInt8) (hex : Bool) (w : World) :
    Calls Tryz.prog 135 #[.int .u8 (c.toNat : Int), .bool hex] w fun e w' => e = .returned (.int .i64 (digR hex c)) ∧ w = w' := by
  have hf := digR_facts c
  have hlt := c.toNat_lt
  rcases hf with ⟨h1, d1, d2⟩ | ⟨h1, h2, d1, d2⟩ | ⟨h1, h2, d1, d2⟩ | ⟨h1, h2, d1, d2⟩ | ⟨h1, h2, d1, d2⟩ | ⟨h1, h2, d1, d2⟩ | ⟨h1, d1, d2⟩
  all_goals cases hex
  · have HD := Lib.hid d2
    have g1 : ¬ (48 : Int) ≤ (c.toNat : Int) := by omega
    clear d1 d2
    go_enter Tryz.func135, Tryz.ntmps135
    go_wp2_with fail
    go_ret
    exact ⟨ret_int HD.out.symm, rfl⟩
  · have HD := Lib.hid d1
    have g1 : ¬ (48 : Int) ≤ (c.toNat : Int) := by omega
    have g2 : ¬ (97 : Int) ≤ (c.toNat : Int) := by omega
    have g3 : ¬ (65 : Int) ≤ (c.toNat : Int) := by omega
    clear d1 d2
    go_enter Tryz.func135, Tryz.ntmps135
    go_wp2_with fail
    go_ret
    exact ⟨ret_int HD.out.symm, rfl⟩
  · have HD := Lib.hid d2
    have g1 : (48 : Int) ≤ (c.toNat : Int) := by omega
    have g2 : (c.toNat : Int) ≤ 57 := by omega
    have u : IntKind.u8.wrap ((c.toNat : Int) - 48) = (c.toNat : Int) - 48 := IntWalk.u8_in _ (by omega)
    clear d1 d2
    go_enter Tryz.func135, Tryz.ntmps135
    go_wp2_with fail
    go_ret
    exact ⟨ret_int HD.out.symm, rfl⟩
  · have HD := Lib.hid d1
    have g1 : (48 : Int) ≤ (c.toNat : Int) := by omega
    have g2 : (c.toNat : Int) ≤ 57 := by omega
    have u : IntKind.u8.wrap ((c.toNat : Int) - 48) = (c.toNat : Int) - 48 := IntWalk.u8_in _ (by omega)
    clear d1 d2
    go_enter Tryz.func135, Tryz.ntmps135
    go_wp2_with fail
    go_ret
    exact ⟨ret_int HD.out.symm, rfl⟩
  · have HD := Lib.hid d2
    have g1 : (48 : Int) ≤ (c.toNat : Int) := by omega
    have g2 : ¬ (c.toNat : Int) ≤ 57 := by omega
    clear d1 d2
    go_enter Tryz.func135, Tryz.ntmps135
    go_wp2_with fail
    go_ret
    exact ⟨ret_int HD.out.symm, rfl⟩
  · have HD := Lib.hid d1
    have g1 : (48 : Int) ≤ (c.toNat : Int) := by omega
    have g2 : ¬ (c.toNat : Int) ≤ 57 := by omega
    have g3 : ¬ (97 : Int) ≤ (c.toNat : Int) := by omega
    have g4 : ¬ (65 : Int) ≤ (c.toNat : Int) := by omega
    clear d1 d2
    go_enter Tryz.func135, Tryz.ntmps135
    go_wp2_with fail
    go_ret
    exact ⟨ret_int HD.out.symm, rfl⟩
  · have HD := Lib.hid d2
    have g1 : (48 : Int) ≤ (c.toNat : Int) := by omega
    have g2 : ¬ (c.toNat : Int) ≤ 57 := by omega
    clear d1 d2
    go_enter Tryz.func135, Tryz.ntmps135
    go_wp2_with fail
    go_ret
    exact ⟨ret_int HD.out.symm, rfl⟩
  · have HD := Lib.hid d1
    have g1 : (48 : Int) ≤ (c.toNat : Int) := by omega
    have g2 : ¬ (c.toNat : Int) ≤ 57 := by omega
    have g3 : ¬ (97 : Int) ≤ (c.toNat : Int) := by omega
    have g4 : (65 : Int) ≤ (c.toNat : Int) := by omega
    have g5 : (c.toNat : Int) ≤ 70 := by omega
    have u : IntKind.u8.wrap ((c.toNat : Int) - 65) = (c.toNat : Int) - 65 := IntWalk.u8_in _ (by omega)
    clear d1 d2
    go_enter Tryz.func135, Tryz.ntmps135
    go_wp2_with fail
    go_ret
    exact ⟨ret_int HD.out.symm, rfl⟩
  · have HD := Lib.hid d2
    have g1 : (48 : Int) ≤ (c.toNat : Int) := by omega
    have g2 : ¬ (c.toNat : Int) ≤ 57 := by omega
    clear d1 d2
    go_enter Tryz.func135, Tryz.ntmps135
    go_wp2_with fail
    go_ret
    exact ⟨ret_int HD.out.symm, rfl⟩
  · have HD := Lib.hid d1
    have g1 : (48 : Int) ≤ (c.toNat : Int) := by omega
    have g2 : ¬ (c.toNat : Int) ≤ 57 := by omega
    have g3 : ¬ (97 : Int) ≤ (c.toNat : Int) := by omega
    have g4 : (65 : Int) ≤ (c.toNat : Int) := by omega
    have g5 : ¬ (c.toNat : Int) ≤ 70 := by omega
    clear d1 d2
    go_enter Tryz.func135, Tryz.ntmps135
    go_wp2_with fail
    go_ret
    exact ⟨ret_int HD.out.symm, rfl⟩
  · have HD := Lib.hid d2
    have g1 : (48 : Int) ≤ (c.toNat : Int) := by omega
    have g2 : ¬ (c.toNat : Int) ≤ 57 := by omega
    clear d1 d2
    go_enter Tryz.func135, Tryz.ntmps135
    go_wp2_with fail
    go_ret
    exact ⟨ret_int HD.out.symm, rfl⟩
  · have HD := Lib.hid d1
    have g1 : (48 : Int) ≤ (c.toNat : Int) := by omega
    have g2 : ¬ (c.toNat : Int) ≤ 57 := by omega
    have g3 : (97 : Int) ≤ (c.toNat : Int) := by omega
    have g4 : (c.toNat : Int) ≤ 102 := by omega
    have u : IntKind.u8.wrap ((c.toNat : Int) - 97) = (c.toNat : Int) - 97 := IntWalk.u8_in _ (by omega)
    clear d1 d2
    go_enter Tryz.func135, Tryz.ntmps135
    go_wp2_with fail
    go_ret
    exact ⟨ret_int HD.out.symm, rfl⟩
  · have HD := Lib.hid d2
    have g1 : (48 : Int) ≤ (c.toNat : Int) := by omega
    have g2 : ¬ (c.toNat : Int) ≤ 57 := by omega
    clear d1 d2
    go_enter Tryz.func135, Tryz.ntmps135
    go_wp2_with fail
    go_ret
    exact ⟨ret_int HD.out.symm, rfl⟩
  · have HD := Lib.hid d1
    have g1 : (48 : Int) ≤ (c.toNat : Int) := by omega
    have g2 : ¬ (c.toNat : Int) ≤ 57 := by omega
    have g3 : (97 : Int) ≤ (c.toNat : Int) := by omega
    have g4 : ¬ (c.toNat : Int) ≤ 102 := by omega
    have g5 : (65 : Int) ≤ (c.toNat : Int) := by omega
    have g6 : ¬ (c.toNat : Int) ≤ 70 := by omega
    clear d1 d2
    go_enter Tryz.func135, Tryz.ntmps135
    go_wp2_with fail
    go_ret
    exact ⟨ret_int HD.out.symm, rfl⟩

end Go.Proofs.YtnlmfoccdmkncaaGreatDoor
