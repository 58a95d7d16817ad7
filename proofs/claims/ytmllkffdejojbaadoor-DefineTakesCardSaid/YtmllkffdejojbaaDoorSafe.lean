/-
  target.Safe: whether a link may lead there.
-/
import Derived.Test.YtmllkffdejojbaaDoorBld
import Derived.Test.YtmllkffdejojbaaDoorStr
import Derived.Test.YtmllkffdejojbaaDoorSafeSpec
import Derived.Deep.DeepCutAuto
import Derived.Deep.CutBlock
import Derived.WalkLawsBesides
import Derived.WalkSpells
import Derived.BigCall
import Derived.Lib.Hide
namespace Go.Proofs.YtmllkffdejojbaaDoor
open Go.RowKit
set_option maxRecDepth 100000
set_option linter.unusedVariables false
set_option linter.unusedSimpArgs false

def schObj : Obj := .cells #[.string ⟨#[106, 97, 118, 97, 115, 99, 114, 105, 112, 116, 58]⟩, .string ⟨#[118, 98, 115, 99, 114, 105, 112, 116, 58]⟩, .string ⟨#[102, 105, 108, 101, 58]⟩, .string ⟨#[100, 97, 116, 97, 58]⟩] 9

theorem sch_cell {w : World} {g k : Nat} (h : w.heap[g]? = some schObj) (hk : k < 4) : w.cell? ⟨g, k, none⟩ = some (.string ⟨(schemes.getD k []).toArray⟩) := by
  unfold schObj at h
  have : k = 0 ∨ k = 1 ∨ k = 2 ∨ k = 3 := by omega
  rcases this with rfl | rfl | rfl | rfl <;> simp [World.cell?, h, schemes]

theorem sch_ne : ∀ c fz, schObj ≠ .cells c 5 fz := by
  intro c fz h
  unfold schObj at h
  injection h with _ h2
  exact absurd h2 (by decide)

theorem isB_lt {T e B b : Nat} {bs : List Value} {w : World} (h : Lib.IsBuilderF T e B b bs w) : b < w.heap.size := by
  rcases h with ⟨_, v, hb, _⟩ | ⟨_, v, hb, _⟩ <;> exact lt_of_block hb

theorem isB_ne {B b : Nat} {bs : List Value} {w : World} (h : Lib.IsBuilderF 62 5 B b bs w) : w.heap[b]? ≠ some schObj := by
  intro hs
  unfold schObj at hs
  rcases h with ⟨_, v, hb, _⟩ | ⟨_, v, hb, _⟩ <;> (rw [hb] at hs; simp at hs)

theorem safe_no (s : ByteArray) (k : Nat) (hk : k < 4) (h : Lib.hasPrefix (strip s) (schemes.getD k []) = true) : safe s = false := by
  unfold safe safeL
  rw [Bool.not_eq_false', List.any_eq_true]
  exact ⟨schemes.getD k [], by
    have : k = 0 ∨ k = 1 ∨ k = 2 ∨ k = 3 := by omega
    rcases this with rfl | rfl | rfl | rfl <;> simp [schemes], h⟩

theorem safe_yes (s : ByteArray) (h : ∀ j, j < 4 → Lib.hasPrefix (strip s) (schemes.getD j []) = false) : safe s = true := by
  unfold safe safeL
  have h0 := h 0 (by omega)
  have h1 := h 1 (by omega)
  have h2 := h 2 (by omega)
  have h3 := h 3 (by omega)
  simp only [schemes, List.getD_cons_zero, List.getD_cons_succ] at h0 h1 h2 h3
  simp [schemes, h0, h1, h2, h3]

set_option maxHeartbeats 4000000 in
theorem safe_any (s : ByteArray) (w : World) (hs : s.size ≤ 1000000) :
    Calls Tryd.prog 22 #[.string s] w fun e w' => e = .returned (.bool (safe s)) ∧ Below w.heap.size w w' := by
  go_enter Tryd.func22, Tryd.ntmps22
  go_upto_block 0 with (fail)
  go_cut [] (fun wc => Lib.IsBuilderF 62 5 w.heap.size w.heap.size (Lib.byteCells (strip s)) wc ∧ Below w.heap.size w wc)
  case first =>
    go_wp2
    go_loopw [] (fun wr => ∃ (pos fuel : Nat) (acc : List UInt8), Lib.IsBuilderF 62 5 w.heap.size w.heap.size (Lib.byteCells acc) wr ∧ wr.heap[w.heap.size + 1]? = some (.stringIter s pos) ∧ Below w.heap.size w wr ∧ acc ++ stripFrom s fuel pos = strip s ∧ s.size ≤ pos + fuel ∧ acc.length ≤ 4 * pos) (fun wr => s.size - wr.iterPos (w.heap.size + 1))
    case atStart =>
      refine ⟨0, s.size, [], (Lib.IsBuilderF.of (Lib.fresh_isBuilder 62 5 w)).alloc _, ?_, ((Below.refl _ w).alloc (Nat.le_refl _) _).alloc (by simp) _, rfl, by omega, by simp⟩
      have := World.iter_heap (w.alloc (.cells #[.pointer none, .slice none 0 0] 62)) s 0
      simpa using this
    case round =>
      obtain ⟨pos, fuel, acc, hI, hit, hbw, hacc, hfu, hal⟩ := hrel
      have hsz : w.heap.size + 1 < wr.heap.size := (Array.getElem?_eq_some_iff.1 hit).1
      by_cases hp : pos < s.size
      · have hnx : ∀ ty, (Instr.next (.pointer (some ⟨w.heap.size + 1, 0, none⟩)) true ty).run Tryd.prog wr = _ := fun ty => Lib.run_next_any_at wr (w.heap.size + 1) s pos ty hit hp
        have hwd := width_pos s pos hp
        have hd1 := decode_le s pos
        have hI2 := hI.iterAt hit (pos + (Utf8.decode s pos).2)
        have hit2 := Lib.iterAt_heap wr (w.heap.size + 1) s pos (pos + (Utf8.decode s pos).2) hit
        have hbw2 := Lib.below_iterAt hbw (k := w.heap.size + 1) (by omega) s (pos + (Utf8.decode s pos).2)
        have hsz2 : w.heap.size ≤ (wr.iterAt (w.heap.size + 1) s (pos + (Utf8.decode s pos).2)).heap.size := by rw [Lib.iterAt_size]; omega
        obtain ⟨f, rfl⟩ : ∃ f, fuel = f + 1 := ⟨fuel - 1, by omega⟩
        obtain ⟨r, n, hrn⟩ : ∃ r n, Utf8.decode s pos = (r, n) := ⟨_, _, rfl⟩
        have hst := stripFrom_succ s f pos hp
        rw [hrn] at hnx hwd hd1 hI2 hit2 hbw2 hsz2 hst
        simp only at hnx hwd hd1 hI2 hit2 hbw2 hsz2 hst
        clear hrn hI hbw
        by_cases c1 : 65 ≤ r ∧ r ≤ 90
        · have HF := Lib.hid (show stripFrom s (f + 1) pos = Lib.encodeRune ((r : Int) + 32) ++ stripFrom s f (pos + n) by
            rw [hst]; unfold keepR lowR; rw [if_pos c1, if_pos (by omega)]; rfl)
          obtain ⟨c2, c3⟩ := c1
          have c2' : (65 : Int) ≤ r := by omega
          have c3' : (r : Int) ≤ 90 := by omega
          clear hst
          go_wp2_with fail
          refine (bld_rune w.heap.size w.heap.size _ ((r : Int) + 32) (by omega) (by omega) _ hI2 (by rw [Lib.byteCells_length]; omega) hsz2).mono ?_
          rintro e W1 ⟨rfl, h1, b1, k1⟩
          go_wp2
          go_roundw
          case rel =>
            have hl4 := Lib.runeCells_le (((r : Int) + 32))
            rw [Lib.runeCells_length] at hl4
            refine ⟨pos + n, f, acc ++ Lib.encodeRune (((r : Int) + 32)), ?_, k1.iter hit2 (by omega), hbw2.trans b1, ?_, by omega, by simp only [List.length_append]; omega⟩
            · rw [Lib.byteCells_append, Lib.byteCells_encodeRune]; exact Or.inr h1
            · rw [← hacc, HF.out, List.append_assoc]
          case measure =>
            simp only [World.iterPos, k1.iter hit2 (by omega), hit]
            omega
        · by_cases c2 : 32 < r ∧ r ≠ 127
          · have HF := Lib.hid (show stripFrom s (f + 1) pos = Lib.encodeRune (r : Int) ++ stripFrom s f (pos + n) by
              rw [hst]; unfold keepR lowR; rw [if_neg c1, if_pos c2])
            obtain ⟨c3, c4⟩ := c2
            have c3' : (32 : Int) < r := by omega
            have c4' : ((r : Int) != 127) = true := by simp; omega
            clear hst c4
            by_cases c5 : r < 65
            · have c5' : ¬ (65 : Int) ≤ r := by omega
              go_wp2_with fail
              refine (bld_rune w.heap.size w.heap.size _ (r : Int) (by omega) (by omega) _ hI2 (by rw [Lib.byteCells_length]; omega) hsz2).mono ?_
              rintro e W1 ⟨rfl, h1, b1, k1⟩
              go_wp2
              go_roundw
              case rel =>
                have hl4 := Lib.runeCells_le ((r : Int))
                rw [Lib.runeCells_length] at hl4
                refine ⟨pos + n, f, acc ++ Lib.encodeRune ((r : Int)), ?_, k1.iter hit2 (by omega), hbw2.trans b1, ?_, by omega, by simp only [List.length_append]; omega⟩
                · rw [Lib.byteCells_append, Lib.byteCells_encodeRune]; exact Or.inr h1
                · rw [← hacc, HF.out, List.append_assoc]
              case measure =>
                simp only [World.iterPos, k1.iter hit2 (by omega), hit]
                omega
            · have c5' : (65 : Int) ≤ r := by omega
              have c6' : ¬ (r : Int) ≤ 90 := by omega
              go_wp2_with fail
              refine (bld_rune w.heap.size w.heap.size _ (r : Int) (by omega) (by omega) _ hI2 (by rw [Lib.byteCells_length]; omega) hsz2).mono ?_
              rintro e W1 ⟨rfl, h1, b1, k1⟩
              go_wp2
              go_roundw
              case rel =>
                have hl4 := Lib.runeCells_le ((r : Int))
                rw [Lib.runeCells_length] at hl4
                refine ⟨pos + n, f, acc ++ Lib.encodeRune ((r : Int)), ?_, k1.iter hit2 (by omega), hbw2.trans b1, ?_, by omega, by simp only [List.length_append]; omega⟩
                · rw [Lib.byteCells_append, Lib.byteCells_encodeRune]; exact Or.inr h1
                · rw [← hacc, HF.out, List.append_assoc]
              case measure =>
                simp only [World.iterPos, k1.iter hit2 (by omega), hit]
                omega
          · have HF := Lib.hid (show stripFrom s (f + 1) pos = stripFrom s f (pos + n) by
              rw [hst]; unfold keepR lowR; rw [if_neg c1, if_neg c2]; rfl)
            clear hst
            by_cases c3 : 32 < r
            · obtain rfl : r = 127 := by omega
              go_wp2
              go_roundw
              case rel =>
                exact ⟨pos + n, f, acc, hI2, hit2, hbw2, by rw [← hacc, HF.out], by omega, by omega⟩
              case measure =>
                simp only [World.iterPos, hit2, hit]
                omega
            · have c3' : ¬ (32 : Int) < r := by omega
              have c4' : ¬ (65 : Int) ≤ r := by omega
              go_wp2
              go_roundw
              case rel =>
                exact ⟨pos + n, f, acc, hI2, hit2, hbw2, by rw [← hacc, HF.out], by omega, by omega⟩
              case measure =>
                simp only [World.iterPos, hit2, hit]
                omega
      · have hnx : ∀ ty, (Instr.next (.pointer (some ⟨w.heap.size + 1, 0, none⟩)) true ty).run Tryd.prog wr = _ := fun ty => Lib.run_next_end_at wr (w.heap.size + 1) s pos ty hit hp
        rw [stripFrom_end s fuel pos hp, List.append_nil] at hacc
        have HA := Lib.hid hacc
        clear hacc
        go_wp2
        go_meet
        case rel => exact ⟨by rw [← HA.out]; exact hI, hbw⟩
  case rest =>
    obtain ⟨hI, hB⟩ := hcut
    have hsz := hB.size
    have hbw0 := isB_lt hI
    go_wp2
    go_loopw [31] (fun u31 wr => ∃ k : Nat, k ≤ 4 ∧ u31 = .int .i64 k ∧ Lib.IsBuilderF 62 5 w.heap.size w.heap.size (Lib.byteCells (strip s)) wr ∧ wr.heap[wc.heap.size]? = some schObj ∧ Below w.heap.size w wr ∧ ∀ j, j < k → Lib.hasPrefix (strip s) (schemes.getD j []) = false) (fun u31 _ => 4 - (intOf u31).toNat)
    case atStart =>
      have hb0 : w.heap.size < wc.heap.size := isB_lt hI
      exact ⟨0, by omega, rfl, hI.alloc _, heap_alloc_new _ _, hB.alloc hsz _, fun j hj => absurd hj (by omega)⟩
    case round =>
      obtain ⟨k, hk, rfl, hI', hbk, hB', hno⟩ := hrel
      have HN := Lib.hid hno
      clear hno hI hB
      by_cases hlt : k < 4
      · have hcell := sch_cell hbk hlt
        have hb0 := isB_lt hI'
        obtain ⟨p, hp⟩ : ∃ p : ByteArray, p = ⟨(schemes.getD k []).toArray⟩ := ⟨_, rfl⟩
        rw [← hp] at hcell
        have HP := Lib.hid hp
        clear hp
        go_wp2_with fail
        refine (Tryd.Builder_String_any_k w.heap.size w.heap.size (strip s) wr hI' hB'.size).mono ?_
        rintro e w2 ⟨rfl, hI2, hb2, ho2⟩
        have hbk2 := ho2 _ _ hbk (by intro e; simp only [Option.some.injEq] at e; omega) sch_ne
        go_wp2_with fail
        refine (Tryd.strings_HasPrefix _ _ _).mono ?_
        rintro e w3 ⟨rfl, rfl⟩
        obtain ⟨h, hh⟩ : ∃ h, Lib.hasPrefix (ByteArray.mk (strip s).toArray).data.toList p.data.toList = h := ⟨_, rfl⟩
        have HH := Lib.hid (show Lib.hasPrefix (strip s) (schemes.getD k []) = h by rw [← hh, HP.out])
        rw [hh]
        clear hh
        cases h
        · go_wp2
          go_roundw
          case rel => exact ⟨k + 1, by omega, by go_num, hI2, hbk2, hB'.trans hb2, fun j hj => by
            by_cases e : j = k
            · subst e; exact HH.out
            · exact HN.out j (by omega)⟩
          case measure => simp [intOf]; omega
        · go_wp2
          go_ret
          exact ⟨ret_bool (safe_no s k hlt HH.out).symm, hB'.trans hb2⟩
      · obtain rfl : k = 4 := by omega
        go_wp2
        go_ret
        exact ⟨ret_bool (safe_yes s HN.out).symm, hB'⟩

end Go.Proofs.YtmllkffdejojbaaDoor
