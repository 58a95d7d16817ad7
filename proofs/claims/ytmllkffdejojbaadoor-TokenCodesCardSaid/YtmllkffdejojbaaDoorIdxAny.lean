/-
  strings.IndexAny of whatever text, for a set of ASCII bytes.
-/
import Derived.Test.YtmllkffdejojbaaDoorTokSpec
import Derived.Test.YtmllkffdejojbaaDoorFoldLaw
import Derived.Shelf.Strings.IndexAnyAll
namespace Go.Proofs.YtmllkffdejojbaaDoor
open Go.RowKit
set_option maxRecDepth 100000
set_option linter.unusedVariables false
set_option linter.unusedSimpArgs false

theorem indexAny_skip (chars : List UInt8) : ∀ (c r : List UInt8), (∀ b ∈ c, chars.contains b = false) → Lib.indexAny (c ++ r) chars = if Lib.indexAny r chars = -1 then -1 else Lib.indexAny r chars + c.length
  | [], r, _ => by
    simp only [List.nil_append, List.length_nil]
    split <;> simp_all
  | b :: c, r, h => by
    have ih := indexAny_skip chars c r (fun x hx => h x (List.mem_cons_of_mem _ hx))
    have hb := h b (List.mem_cons_self ..)
    show (if chars.contains b then (0 : Int) else if Lib.indexAny (c ++ r) chars == -1 then -1 else Lib.indexAny (c ++ r) chars + 1) = _
    have hge := Lib.indexAny_ge chars r
    rw [ih, hb, if_neg (by simp)]
    by_cases h1 : Lib.indexAny r chars = -1
    · rw [if_pos h1, if_pos h1]; rfl
    · rw [if_neg h1, if_neg h1, if_neg (by simp; omega), List.length_cons]
      omega
theorem indexAny_hit (chars : List UInt8) (b : UInt8) (r : List UInt8) (h : chars.contains b = true) : Lib.indexAny (b :: r) chars = 0 := by
  show (if chars.contains b then (0 : Int) else _) = 0
  rw [h]; rfl

theorem special_big : ∀ b : UInt8, 128 ≤ b.toNat → specialL.contains b = false := fun b => allB (p := fun b => 128 ≤ b.toNat → specialL.contains b = false) (by unfold AllB; decide +kernel) b
theorem special_index : ∀ b : UInt8, decide (0 ≤ Lib.indexByte specialL b) = specialL.contains b := fun b => allB (p := fun b => decide (0 ≤ Lib.indexByte specialL b) = specialL.contains b) (by unfold AllB; decide +kernel) b

theorem chunk_big (s : ByteArray) (pos : Nat) (hp : pos < s.size) (h : 128 ≤ s[pos].toNat) : ∀ b ∈ (s.data.toList.drop pos).take (Utf8.decode s pos).2, specialL.contains b = false := by
  intro b hb
  have hd := drop_at s pos hp
  have hw := Lib.decodeL_width (s.data.toList.drop pos)
  have hc := (width_conts s[pos] (s.data.toList.drop (pos + 1))).1
  rw [← hd, Lib.decodeL_drop] at hc
  rw [Lib.decodeL_drop] at hw
  rw [hd, List.take_cons (by omega)] at hb
  rcases List.mem_cons.1 hb with e | e
  · rw [e]; exact special_big _ h
  · have := hc b e
    unfold isCont at this
    refine special_big _ ?_
    simp at this
    omega

def spBa : ByteArray := ⟨#[0, 92, 38, 96, 60, 42, 95, 33, 91, 93, 10, 32]⟩

set_option maxHeartbeats 4000000 in
theorem indexAny_short (s : ByteArray) (w : World) (h8 : s.size ≤ 8) :
    Calls Tryd.prog 62 #[.string s, .string ⟨#[0, 92, 38, 96, 60, 42, 95, 33, 91, 93, 10, 32]⟩] w fun e w' => e = .returned (.int .i64 (Lib.indexAny s.data.toList specialL)) ∧ Below w.heap.size w w' := by
  have hu := fun W => Any.strings_shouldUseASCIISet Tryd.lays226 (s.size : Int) W
  have h8' : decide ((8 : Int) < (s.size : Int)) = false := by simp; omega
  rw [h8'] at hu
  have HU := Lib.hid hu
  clear hu
  have he : (ByteArray.mk #[0, 92, 38, 96, 60, 42, 95, 33, 91, 93, 10, 32]).toList.isEmpty = false := by rw [Lib.toList_data]; rfl
  go_enter Tryd.func62, Tryd.ntmps62
  go_wp2_with fail
  refine (HU.out _).mono ?_
  rintro e w' ⟨rfl, hw'⟩
  obtain rfl := hw'.symm
  go_wp2_with fail
  go_loopw [] (fun wr => ∃ pos : Nat, wr.heap[w.heap.size]? = some (.stringIter s pos) ∧ Below w.heap.size w wr ∧ pos ≤ s.size ∧ Lib.indexAny s.data.toList specialL = (if Lib.indexAny (s.data.toList.drop pos) specialL = -1 then -1 else Lib.indexAny (s.data.toList.drop pos) specialL + pos)) (fun wr => s.size - wr.iterPos w.heap.size)
  case atStart =>
    refine ⟨0, ?_, (Below.refl _ w).alloc (Nat.le_refl _) _, by omega, ?_⟩
    · have := World.iter_heap w s 0
      simpa using this
    · rw [List.drop_zero]
      split
      · assumption
      · omega
  case round =>
    obtain ⟨pos, hit, hbw, hps, hix⟩ := hrel
    have hsz : w.heap.size < wr.heap.size := (Array.getElem?_eq_some_iff.1 hit).1
    by_cases hp : pos < s.size
    · have hnx : ∀ ty, (Instr.next (.pointer (some ⟨w.heap.size, 0, none⟩)) true ty).run Tryd.prog wr = _ := fun ty => Lib.run_next_any_at wr w.heap.size s pos ty hit hp
      have hit2 := Lib.iterAt_heap wr w.heap.size s pos (pos + (Utf8.decode s pos).2) hit
      have hbw2 := Lib.below_iterAt hbw (k := w.heap.size) (by omega) s (pos + (Utf8.decode s pos).2)
      have hda := drop_at s pos hp
      have hge := Lib.indexAny_ge specialL (s.data.toList.drop (pos + 1))
      obtain ⟨c, hc⟩ : ∃ c, s[pos] = c := ⟨_, rfl⟩
      by_cases hasc : c.toNat < 128
      · rw [Go.decode_ascii s pos hp (by rw [hc]; exact hasc), hc] at hnx
        rw [Go.decode_ascii s pos hp (by rw [hc]; exact hasc)] at hit2 hbw2
        simp only at hnx hit2 hbw2
        rw [hc] at hda
        have hi0 : (0 : Int) ≤ (c.toNat : Int) := by omega
        have hi1 : (c.toNat : Int) < 128 := by omega
        have hir := fun W => Tryd.strings_IndexRune_ascii ⟨#[0, 92, 38, 96, 60, 42, 95, 33, 91, 93, 10, 32]⟩ (c.toNat : Int) W hi0 hi1
        have hsi := special_index c
        rw [show (ByteArray.mk #[0, 92, 38, 96, 60, 42, 95, 33, 91, 93, 10, 32]).data.toList = specialL from rfl, show ((c.toNat : Int).toNat.toUInt8) = c by rw [Int.toNat_natCast]; simp] at hir
        obtain ⟨k, hk⟩ : ∃ k, Lib.indexByte specialL c = k := ⟨_, rfl⟩
        rw [hk] at hir hsi
        have HIR := Lib.hid hir
        clear hir hk hbw
        cases hsp : specialL.contains c
        · rw [hsp, decide_eq_false_iff_not] at hsi
          have hn := indexAny_skip specialL [c] (s.data.toList.drop (pos + 1)) (fun b hb => by rw [List.mem_singleton.1 hb]; exact hsp)
          rw [hda, show c :: s.data.toList.drop (pos + 1) = [c] ++ s.data.toList.drop (pos + 1) from rfl, hn] at hix
          have HN := Lib.hid (show Lib.indexAny s.data.toList specialL = (if Lib.indexAny (s.data.toList.drop (pos + 1)) specialL = -1 then -1 else Lib.indexAny (s.data.toList.drop (pos + 1)) specialL + ((pos + 1 : Nat) : Int)) by
            rw [hix]
            by_cases h1 : Lib.indexAny (s.data.toList.drop (pos + 1)) specialL = -1
            · rw [if_pos h1, if_pos h1, if_pos rfl]
            · rw [if_neg h1, if_neg h1, if_neg (by simp; omega)]
              simp; omega)
          clear hix hn hda hc
          go_wp2_with fail
          refine (HIR.out _).mono ?_
          rintro e w' ⟨rfl, hw'⟩
          obtain rfl := hw'.symm
          go_wp2_with fail
          go_roundw
          case rel => exact ⟨pos + 1, hit2, hbw2, by omega, HN.out⟩
          case measure => simp only [World.iterPos, hit2, hit]; omega
        · rw [hsp, decide_eq_true_eq] at hsi
          rw [hda, indexAny_hit specialL c _ hsp, if_neg (by omega)] at hix
          have HN := Lib.hid hix
          clear hix hda hc
          go_wp2_with fail
          refine (HIR.out _).mono ?_
          rintro e w' ⟨rfl, hw'⟩
          obtain rfl := hw'.symm
          go_wp2_with fail
          go_ret
          exact ⟨ret_int (by rw [HN.out]; omega), hbw2⟩
      · have hbig := decode_big s pos hp (by rw [hc]; omega)
        have hcb := chunk_big s pos hp (by rw [hc]; omega)
        have hrl := Lib.decodeL_rune (s.data.toList.drop pos)
        have hwl := Lib.decodeL_le (s.data.toList.drop pos) (by rw [hda]; simp)
        have hwd := Lib.decodeL_width (s.data.toList.drop pos)
        rw [Lib.decodeL_drop] at hrl hwl hwd
        obtain ⟨r, n, hrn⟩ : ∃ r n, Utf8.decode s pos = (r, n) := ⟨_, _, rfl⟩
        rw [hrn] at hnx hit2 hbw2 hbig hcb hrl hwl hwd
        simp only at hnx hit2 hbw2 hbig hcb hrl hwl hwd
        rw [List.length_drop, ← Lib.size_eq] at hwl
        have hir := fun W => indexRune_big ⟨#[0, 92, 38, 96, 60, 42, 95, 33, 91, 93, 10, 32]⟩ (r : Int) W (by unfold AllAscii; decide) (by decide) (by omega) (by omega)
        have hn := indexAny_skip specialL ((s.data.toList.drop pos).take n) ((s.data.toList.drop pos).drop n) hcb
        rw [List.take_append_drop, List.drop_drop, List.length_take, List.length_drop, ← Lib.size_eq, show min n (s.size - pos) = n by omega] at hn
        rw [hn] at hix
        have hge2 := Lib.indexAny_ge specialL (s.data.toList.drop (pos + n))
        have HN := Lib.hid (show Lib.indexAny s.data.toList specialL = (if Lib.indexAny (s.data.toList.drop (pos + n)) specialL = -1 then -1 else Lib.indexAny (s.data.toList.drop (pos + n)) specialL + ((pos + n : Nat) : Int)) by
          rw [hix]
          by_cases h1 : Lib.indexAny (s.data.toList.drop (pos + n)) specialL = -1
          · rw [if_pos h1, if_pos h1, if_pos rfl]
          · rw [if_neg h1, if_neg h1, if_neg (by omega)]
            omega)
        have HIR := Lib.hid hir
        clear hir hix hn hda hc hrn hcb
        go_wp2_with fail
        refine (HIR.out _).mono ?_
        rintro e w' ⟨rfl, b3⟩
        have hit3 := iter_below hit2 b3
        have hbw3 := below_step hbw2 b3
        go_wp2_with fail
        go_roundw
        case rel => exact ⟨pos + n, hit3, hbw3, by omega, HN.out⟩
        case measure => simp only [World.iterPos, hit3, hit]; omega
    · have hnx : ∀ ty, (Instr.next (.pointer (some ⟨w.heap.size, 0, none⟩)) true ty).run Tryd.prog wr = _ := fun ty => Lib.run_next_end_at wr w.heap.size s pos ty hit hp
      rw [drop_end s pos (by omega), if_pos (by rfl)] at hix
      have HN := Lib.hid hix
      clear hix
      go_wp2_with fail
      go_ret
      exact ⟨ret_int HN.out.symm, hbw⟩

/-- strings.IndexAny of whatever text, for the signs with which tokens begin. -/
theorem indexAny_any (s : ByteArray) (w : World) (hs : s.size ≤ 1000000000) :
    Calls Tryd.prog 62 #[.string s, .string ⟨#[0, 92, 38, 96, 60, 42, 95, 33, 91, 93, 10, 32]⟩] w fun e w' => e = .returned (.int .i64 (Lib.indexAny s.data.toList specialL)) ∧ Below w.heap.size w w' := by
  by_cases h8 : s.size ≤ 8
  · exact indexAny_short s w h8
  · have hz : (Tryd.prog.info? 117).map (fun i => (i.zero, i.size)) = some (some (.agg (Array.replicate 256 (.bool false))), 256) := by kernel_rfl
    refine (Any.strings_IndexAny_long Tryd.lays153 (zero_of_info hz).1 (zero_of_info hz).2 s ⟨#[0, 92, 38, 96, 60, 42, 95, 33, 91, 93, 10, 32]⟩ w (by decide) (by omega) (by omega) (by decide) (ascii_of_all (by decide))).mono ?_
    rintro e w' ⟨rfl, rfl⟩
    exact ⟨rfl, ((Below.refl _ w).alloc (Nat.le_refl _) _).alloc (by simp) _⟩

end Go.Proofs.YtmllkffdejojbaaDoor
