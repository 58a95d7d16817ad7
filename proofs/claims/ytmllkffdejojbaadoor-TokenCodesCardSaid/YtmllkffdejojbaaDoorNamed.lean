/-
  entity.Names, runes, Named: what a name stands for.
-/
import Derived.Test.YtmllkffdejojbaaDoorEnv
import Derived.Test.YtmllkffdejojbaaDoorEntFn
import Derived.Laws.OwnMore
import Derived.Deep.DeepCutAuto
import Derived.Deep.CutBlock
import Derived.WalkLawsBesides
import Derived.WalkSpells
import Derived.BigCall
import Derived.Outline
import Derived.Lib.Hide
namespace Go.Proofs.YtmllkffdejojbaaDoor
open Go.RowKit
set_option maxRecDepth 100000
set_option linter.unusedVariables false
set_option linter.unusedSimpArgs false

def NamesAt (w : World) (A : Nat) : Prop := A < w.heap.size ∧ ∀ i, i < 23 → w.cell? ⟨A, i, none⟩ = some (.string ⟨(entNames.getD i []).toArray⟩)

def NamesPost (w : World) (e : Ending) (w' : World) : Prop := ∃ A, e = .returned (.slice (some ⟨A, 0, none⟩) 23 23) ∧ NamesAt w' A ∧ w.heap.size ≤ A ∧ Below w.heap.size w w'

theorem entNames_len : entNames.length = 23 := rfl

def namesBA : ByteArray := ⟨#[97, 109, 112, 32, 108, 116, 32, 103, 116, 32, 113, 117, 111, 116, 32, 97, 112, 111, 115, 32, 110, 98, 115, 112, 32, 99, 111, 112, 121, 32, 114, 101, 103, 32, 100, 101, 103, 32, 115, 101, 99, 116, 32, 112, 97, 114, 97, 32, 109, 105, 100, 100, 111, 116, 32, 101, 97, 99, 117, 116, 101, 32, 97, 117, 109, 108, 32, 111, 117, 109, 108, 32, 117, 117, 109, 108, 32, 115, 122, 108, 105, 103, 32, 110, 100, 97, 115, 104, 32, 109, 100, 97, 115, 104, 32, 104, 101, 108, 108, 105, 112, 32, 101, 117, 114, 111, 32, 108, 97, 114, 114, 32, 114, 97, 114, 114]⟩
theorem fields_ba : Lib.fieldsD namesBA.data.toList = entNames := by decide +kernel

theorem fields_names (w : World) (hE : Env w) : Calls Tryd.prog 88 #[.string namesBA] w (NamesPost w) := by
  have h := Tryd.strings_Fields_any namesBA w (by decide) hE.sp hE.white
  rw [fields_ba] at h
  refine h.mono ?_
  rintro e w1 ⟨A, rfl, hA, ho, hB⟩
  refine ⟨A, rfl, ⟨(ho.lt A rfl).2, fun i hi => ?_⟩, hA, hB⟩
  have := ho.cellAt i (by rw [entNames_len]; omega)
  rw [this, List.getElem?_map]
  have h23 : i < entNames.length := by rw [entNames_len]; exact hi
  simp [List.getD_eq_getElem?_getD, h23]

theorem names_any (w : World) (hE : Env w) : Calls Tryd.prog 63 #[] w (NamesPost w) := by
  go_enter Tryd.func63, Tryd.ntmps63
  go_wp2_with fail
  refine (fields_names _ hE).mono ?_
  rintro e w1 ⟨A, rfl, hN, hA, hB⟩
  have HN := Lib.hid hN
  clear hN
  go_wp2_with fail
  go_ret
  exact ⟨A, rfl, HN.out, hA, hB⟩

def runesObj : Obj := .cells #[.int .i32 38, .int .i32 60, .int .i32 62, .int .i32 34, .int .i32 39, .int .i32 160, .int .i32 169, .int .i32 174, .int .i32 176, .int .i32 167, .int .i32 182, .int .i32 183, .int .i32 233, .int .i32 228, .int .i32 246, .int .i32 252, .int .i32 223, .int .i32 8211, .int .i32 8212, .int .i32 8230, .int .i32 8364, .int .i32 8592, .int .i32 8594] 21
theorem runes_any (w : World) : Calls Tryd.prog 64 #[] w fun e w' => e = .returned (.slice (some ⟨w.heap.size, 0, none⟩) 23 23) ∧ w' = w.alloc runesObj := by
  go_enter Tryd.func64, Tryd.ntmps64
  go_wp2_with fail
  go_ret
  exact ⟨rfl, rfl⟩

theorem rune_cell (w : World) (k : Nat) (hk : k < 23) : (w.alloc runesObj).cell? ⟨w.heap.size, k, none⟩ = some (.int .i32 (entRunes.getD k 0)) := by
  unfold runesObj
  rw [World.cell?_alloc_at _ _ _ _ rfl]
  have : k = 0 ∨ k = 1 ∨ k = 2 ∨ k = 3 ∨ k = 4 ∨ k = 5 ∨ k = 6 ∨ k = 7 ∨ k = 8 ∨ k = 9 ∨ k = 10 ∨ k = 11 ∨ k = 12 ∨ k = 13 ∨ k = 14 ∨ k = 15 ∨ k = 16 ∨ k = 17 ∨ k = 18 ∨ k = 19 ∨ k = 20 ∨ k = 21 ∨ k = 22 := by omega
  rcases this with rfl | rfl | rfl | rfl | rfl | rfl | rfl | rfl | rfl | rfl | rfl | rfl | rfl | rfl | rfl | rfl | rfl | rfl | rfl | rfl | rfl | rfl | rfl <;> rfl

theorem named_none (l : List UInt8) (h : ∀ j, j < 23 → entNames.getD j [] ≠ l) : named l = ([], false) := by
  unfold named
  have : entNames.findIdx? (· == l) = none := by
    rw [List.findIdx?_eq_none_iff]
    intro x hx
    obtain ⟨j, hj, rfl⟩ := List.mem_iff_getElem.1 hx
    have := h j (by rw [entNames_len] at hj; exact hj)
    simp [List.getD_eq_getElem?_getD, hj] at this
    simpa using this
  rw [this]

theorem named_some (l : List UInt8) (k : Nat) (hk : k < 23) (h : ∀ j, j < k → entNames.getD j [] ≠ l) (he : entNames.getD k [] = l) : named l = ((Utf8.encode (entRunes.getD k 0)).data.toList, true) := by
  unfold named
  have hk' : k < entNames.length := by rw [entNames_len]; exact hk
  have : entNames.findIdx? (· == l) = some k := by
    rw [List.findIdx?_eq_some_iff_getElem]
    refine ⟨hk', ?_, fun j hj => ?_⟩
    · simp [List.getD_eq_getElem?_getD, hk'] at he
      simpa using he
    · have := h j hj
      have hj' : j < entNames.length := by omega
      simp [List.getD_eq_getElem?_getD, hj'] at this
      simpa using this
  rw [this]

set_option maxHeartbeats 2000000 in
theorem named_any (s : ByteArray) (w : World) (hE : Env w) :
    Calls Tryd.prog 39 #[.string s] w fun e w' => e = .returned (.tuple #[.string ⟨(named s.data.toList).1.toArray⟩, .bool (named s.data.toList).2]) ∧ Below w.heap.size w w' := by
  go_enter Tryd.func39, Tryd.ntmps39
  go_wp2_with fail
  refine (names_any _ hE).mono ?_
  rintro e w1 ⟨A, rfl, ⟨hAl, hN⟩, hA, hB⟩
  have HN := Lib.hid hN
  clear hN
  go_wp2_with fail
  go_loop [8] (fun u8 => ∃ k : Nat, k ≤ 23 ∧ u8 = .int .i64 k ∧ ∀ j, j < k → entNames.getD j [] ≠ s.data.toList) (fun u8 => 23 - (intOf u8).toNat)
  case atStart => exact ⟨0, by omega, rfl, fun j hj => by omega⟩
  case round =>
    obtain ⟨k, hk, rfl, hno⟩ := hrel
    have HNO := Lib.hid hno
    clear hno
    by_cases hlt : k < 23
    · have hc := HN.out k hlt
      obtain ⟨p, hp⟩ : ∃ p : ByteArray, p = ⟨(entNames.getD k []).toArray⟩ := ⟨_, rfl⟩
      rw [← hp] at hc
      have HP := Lib.hid (show p.data.toList = entNames.getD k [] by rw [hp])
      clear hp
      have hr := rune_cell w1 k hlt
      obtain ⟨r, hr0⟩ : ∃ r, entRunes.getD k 0 = r := ⟨_, rfl⟩
      rw [hr0] at hr
      have HR := Lib.hid hr0
      clear hr0
      cases he : (p.toList == s.toList)
      · have hne := bytes_ne he
        have HE := Lib.hid hne
        go_wp2_with fail
        go_round
        case rel => exact ⟨k + 1, by omega, by go_num, fun j hj => by
          by_cases e : j = k
          · subst e; rw [← HP.out]; exact HE.out
          · exact HNO.out j (by omega)⟩
        case measure => simp [intOf]; omega
      · have HS := Lib.hid (named_some s.data.toList k hlt HNO.out (by rw [← HP.out]; exact bytes_eq he))
        go_wp2_with fail
        refine (runes_any _).mono ?_
        rintro e w2 ⟨rfl, rfl⟩
        go_wp2_with fail
        go_ret2
        exact ⟨ret_sb (by rw [HS.out, HR.out]), hB.trans ((Below.refl _ _).alloc (by have := hB.size; omega) _)⟩
    · obtain rfl : k = 23 := by omega
      have HS := Lib.hid (named_none s.data.toList HNO.out)
      go_wp2_with fail
      go_ret2
      exact ⟨ret_sb HS.out, hB⟩

end Go.Proofs.YtmllkffdejojbaaDoor
