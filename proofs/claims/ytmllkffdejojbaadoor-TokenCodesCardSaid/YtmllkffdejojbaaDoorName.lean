/-
  define.Name, behind, block.Plain: names, and what stands behind blanks.
-/
import Derived.Test.YtmllkffdejojbaaDoorFold
import Derived.Test.YtmllkffdejojbaaDoorTitle
import Derived.Shelf.Strings.SlTrimAscii
namespace Go.Proofs.YtmllkffdejojbaaDoor
open Go.RowKit
set_option maxRecDepth 100000
set_option linter.unusedVariables false
set_option linter.unusedSimpArgs false

def badSigns : List UInt8 := [91, 93, 10, 0]
def hasBad : Nat → List UInt8 → Bool
  | 0, _ => false
  | n + 1, l => if l = [] then false else (badSigns.any (fun b => b.toNat == (Lib.decodeL l).1)) || hasBad n (l.drop (Lib.decodeL l).2)
theorem hasBad_nil (n : Nat) : hasBad n [] = false := by cases n <;> simp [hasBad]
def nameL (l : List UInt8) : List UInt8 × Bool :=
  if hasBad l.length l = true then ([], false) else if fold l = [] ∨ 60 < (fold l).length then ([], false) else (fold l, true)

set_option maxHeartbeats 2000000 in
theorem name_any (s : ByteArray) (w : World) (hE : Env w) (hs : s.size ≤ 1000000000) :
    Calls Tryd.prog 29 #[.string s] w fun e w' => e = .returned (.tuple #[.string ⟨(nameL s.data.toList).1.toArray⟩, .bool (nameL s.data.toList).2]) ∧ Below w.heap.size w w' := by
  have HE := Lib.hid hE
  clear hE
  go_enter Tryd.func29, Tryd.ntmps29
  go_wp2_with fail
  go_loopw [] (fun wr => ∃ pos f : Nat, wr.heap[w.heap.size]? = some (.stringIter s pos) ∧ Below w.heap.size w wr ∧ hasBad f (s.data.toList.drop pos) = hasBad s.data.toList.length s.data.toList ∧ s.size ≤ pos + f) (fun wr => s.size - wr.iterPos w.heap.size)
  case atStart =>
    refine ⟨0, s.size, ?_, (Below.refl _ w).alloc (Nat.le_refl _) _, by rw [← Lib.size_eq]; rfl, by omega⟩
    have := World.iter_heap w s 0
    simpa using this
  case round =>
    obtain ⟨pos, f, hit, hbw, hbad, hfu⟩ := hrel
    have hsz : w.heap.size < wr.heap.size := (Array.getElem?_eq_some_iff.1 hit).1
    by_cases hp : pos < s.size
    · have hnx : ∀ ty, (Instr.next (.pointer (some ⟨w.heap.size, 0, none⟩)) true ty).run Tryd.prog wr = _ := fun ty => Lib.run_next_any_at wr w.heap.size s pos ty hit hp
      have hit2 := Lib.iterAt_heap wr w.heap.size s pos (pos + (Utf8.decode s pos).2) hit
      have hbw2 := Lib.below_iterAt hbw (k := w.heap.size) (by omega) s (pos + (Utf8.decode s pos).2)
      obtain ⟨f, rfl⟩ : ∃ g, f = g + 1 := ⟨f - 1, by omega⟩
      have hdl := Lib.decodeL_drop s pos
      have hwd := Lib.decodeL_width (s.data.toList.drop pos)
      have hrl := Lib.decodeL_rune (s.data.toList.drop pos)
      have hne : s.data.toList.drop pos ≠ [] := by intro h0; have := congrArg List.length h0; simp at this; omega
      rw [hasBad, if_neg hne, List.drop_drop] at hbad
      rw [← hdl] at hnx hit2 hbw2
      obtain ⟨r, n, hrn⟩ : ∃ r n, Lib.decodeL (s.data.toList.drop pos) = (r, n) := ⟨_, _, rfl⟩
      rw [hrn] at hnx hit2 hbw2 hwd hrl hbad
      simp only at hnx hit2 hbw2 hwd hrl hbad
      clear hrn hdl hbw
      have hcr := fun W => containsRune_nat ⟨#[91, 93, 10, 0]⟩ r W (by unfold AllAscii; decide) (by decide) hrl
      rw [show (ByteArray.mk #[91, 93, 10, 0]).data.toList = badSigns from rfl] at hcr
      have HCR := Lib.hid hcr
      have HBAD := Lib.hid hbad
      clear hcr hbad
      cases hb : badSigns.any (fun b => b.toNat == r)
      · have HN := Lib.hid (show hasBad f (s.data.toList.drop (pos + n)) = hasBad s.data.toList.length s.data.toList by have := HBAD.out; rw [hb, Bool.false_or] at this; exact this)
        have HB := Lib.hid hb
        clear hb
        go_wp2_with fail
        refine (HCR.out _).mono ?_
        rintro e w2 ⟨rfl, b2⟩
        rw [HB.out]
        have hit3 := iter_below hit2 b2
        have hbw3 := below_step hbw2 b2
        go_wp2_with fail
        go_roundw
        case rel => exact ⟨pos + n, f, hit3, hbw3, HN.out, by omega⟩
        case measure => simp only [World.iterPos, hit3, hit]; omega
      · have HN := Lib.hid (show nameL s.data.toList = ([], false) by
          unfold nameL
          rw [if_pos]
          have := HBAD.out; rw [hb, Bool.true_or] at this; exact this.symm)
        have HB := Lib.hid hb
        clear hb
        go_wp2_with fail
        refine (HCR.out _).mono ?_
        rintro e w2 ⟨rfl, b2⟩
        rw [HB.out]
        have hbw3 := below_step hbw2 b2
        go_wp2_with fail
        go_ret2
        exact ⟨ret_sb HN.out, hbw3⟩
    · have hnx : ∀ ty, (Instr.next (.pointer (some ⟨w.heap.size, 0, none⟩)) true ty).run Tryd.prog wr = _ := fun ty => Lib.run_next_end_at wr w.heap.size s pos ty hit hp
      rw [drop_end s pos (by omega), hasBad_nil] at hbad
      have HB := Lib.hid hbad.symm
      clear hbad
      obtain ⟨X, hX⟩ : ∃ X : ByteArray, X = ⟨(fold s.data.toList).toArray⟩ := ⟨_, rfl⟩
      have hXl : X.data.toList = fold s.data.toList := by rw [hX]
      have hXs : X.size = (fold s.data.toList).length := by rw [Lib.size_eq, hXl]
      have hf := fun W hW => fold_any s W hW hs
      rw [← hX] at hf
      have HF := Lib.hid hf
      have HX := Lib.hid hXl
      have HXS := Lib.hid hXs
      clear hf hXl hXs hX
      by_cases h0 : 0 < X.size
      · have he := empty_no h0
        by_cases h6 : 60 < X.size
        · have h6' : (60 : Int) < (X.size : Int) := by omega
          have HN := Lib.hid (show nameL s.data.toList = ([], false) by
            unfold nameL
            rw [if_neg (by rw [HB.out]; simp), if_pos (Or.inr (by rw [← HXS.out]; exact h6))])
          go_wp2_with fail
          refine (HF.out _ (HE.out.below hbw)).mono ?_
          rintro e w2 ⟨rfl, b2⟩
          go_wp2_with fail
          go_ret2
          exact ⟨ret_sb HN.out, below_step hbw b2⟩
        · have h6' : ¬ (60 : Int) < (X.size : Int) := by omega
          have HN := Lib.hid (show nameL s.data.toList = (X.data.toList, true) by
            unfold nameL
            rw [if_neg (by rw [HB.out]; simp), if_neg (by
              rintro (h | h)
              · rw [HXS.out, h] at h0; exact absurd h0 (by simp)
              · rw [← HXS.out] at h; exact h6 h), HX.out])
          go_wp2_with fail
          refine (HF.out _ (HE.out.below hbw)).mono ?_
          rintro e w2 ⟨rfl, b2⟩
          go_wp2_with fail
          go_ret2
          exact ⟨ret_sb HN.out, below_step hbw b2⟩
      · have he := empty_yes (s := X) (by omega)
        have HN := Lib.hid (show nameL s.data.toList = ([], false) by
          unfold nameL
          rw [if_neg (by rw [HB.out]; simp), if_pos (Or.inl (List.eq_nil_of_length_eq_zero (by rw [← HXS.out]; omega)))])
        go_wp2_with fail
        refine (HF.out _ (HE.out.below hbw)).mono ?_
        rintro e w2 ⟨rfl, b2⟩
        go_wp2_with fail
        go_ret2
        exact ⟨ret_sb HN.out, below_step hbw b2⟩

def blanks : List UInt8 := [32, 9]
def behindL (l : List UInt8) : List UInt8 × Bool := (Lib.trimLeftS l blanks, decide ((Lib.trimLeftS l blanks).length < l.length))
theorem behind_any (s : ByteArray) (w : World) :
    Calls Tryd.prog 57 #[.string s] w fun e w' => e = .returned (.tuple #[.string ⟨(behindL s.data.toList).1.toArray⟩, .bool (behindL s.data.toList).2]) ∧ Below w.heap.size w w' := by
  have hc : ∀ W, Calls Tryd.prog 69 #[.string s, .string ⟨#[32, 9]⟩] W fun e w' => e = .returned (.string ⟨(Lib.trimLeftS s.data.toList blanks).toArray⟩) ∧ Below W.heap.size W w' := fun W =>
    Any.strings_TrimLeft_laid Tryd.lays161 (by kernel_rfl) s ⟨#[32, 9]⟩ W (by decide) (ascii_of_all (by decide))
  obtain ⟨X, hX⟩ : ∃ X : ByteArray, X = ⟨(Lib.trimLeftS s.data.toList blanks).toArray⟩ := ⟨_, rfl⟩
  rw [← hX] at hc
  have hXl : X.data.toList = Lib.trimLeftS s.data.toList blanks := by rw [hX]
  have HR := Lib.hid (show behindL s.data.toList = (X.data.toList, decide (X.size < s.size)) by
    unfold behindL
    rw [← hXl, ← Lib.size_eq, ← Lib.size_eq])
  have HC := Lib.hid hc
  clear hc hX hXl
  go_enter Tryd.func57, Tryd.ntmps57
  go_wp2_with fail
  refine (HC.out _).mono ?_
  rintro e w2 ⟨rfl, b2⟩
  go_wp2_with fail
  go_ret2
  exact ⟨ret_sb HR.out, b2⟩

def plainL (l : List UInt8) : List UInt8 := Lib.trimRightS (Lib.trimLeftS l blanks) blanks
theorem plain_skip {c : UInt8} {l : List UInt8} (h : blanks.contains c = true) : Lib.trimLeftS (c :: l) blanks = Lib.trimLeftS l blanks := by
  unfold Lib.trimLeftS; rw [List.dropWhile_cons_of_pos h]
theorem plain_stop {c : UInt8} {l : List UInt8} (h : blanks.contains c = false) : Lib.trimLeftS (c :: l) blanks = c :: l := by
  unfold Lib.trimLeftS; rw [List.dropWhile_cons_of_neg (by rw [h]; simp)]

set_option maxHeartbeats 2000000 in
theorem plain_any (s : ByteArray) (w : World) (hs : s.size ≤ 1000000000) :
    Calls Tryd.prog 58 #[.string s] w fun e w' => e = .returned (.string ⟨(plainL s.data.toList).toArray⟩) ∧ Below w.heap.size w w' := by
  go_enter Tryd.func58, Tryd.ntmps58
  go_wp2_with fail
  go_loopw [] (fun wr => ∃ pos : Nat, wr.heap[w.heap.size]? = some (.stringIter s pos) ∧ Below w.heap.size w wr ∧ Lib.trimLeftS (s.data.toList.drop pos) blanks = Lib.trimLeftS s.data.toList blanks) (fun wr => s.size - wr.iterPos w.heap.size)
  case atStart =>
    refine ⟨0, ?_, (Below.refl _ w).alloc (Nat.le_refl _) _, by simp⟩
    have := World.iter_heap w s 0
    simpa using this
  case round =>
    obtain ⟨pos, hit, hbw, htr⟩ := hrel
    have hsz : w.heap.size < wr.heap.size := (Array.getElem?_eq_some_iff.1 hit).1
    by_cases hp : pos < s.size
    · have hnx : ∀ ty, (Instr.next (.pointer (some ⟨w.heap.size, 0, none⟩)) true ty).run Tryd.prog wr = _ := fun ty => Lib.run_next_any_at wr w.heap.size s pos ty hit hp
      have hit2 := Lib.iterAt_heap wr w.heap.size s pos (pos + (Utf8.decode s pos).2) hit
      have hbw2 := Lib.below_iterAt hbw (k := w.heap.size) (by omega) s (pos + (Utf8.decode s pos).2)
      have hda := drop_at s pos hp
      cases hbl : blanks.contains s[pos]
      · rw [hda, plain_stop hbl, ← hda] at htr
        have hr : ((((Utf8.decode s pos).1 : Nat) : Int) != 32) = true ∧ ((((Utf8.decode s pos).1 : Nat) : Int) != 9) = true := by
          by_cases hasc : s[pos].toNat < 128
          · rw [Go.decode_ascii s pos hp hasc]
            have h1 : s[pos] ≠ 32 := fun e => by rw [e] at hbl; exact absurd hbl (by decide)
            have h2 : s[pos] ≠ 9 := fun e => by rw [e] at hbl; exact absurd hbl (by decide)
            have h1' : s[pos].toNat ≠ 32 := fun e => h1 (byte_eq e)
            have h2' : s[pos].toNat ≠ 9 := fun e => h2 (byte_eq e)
            constructor <;> (simp; omega)
          · have := decode_big s pos hp (by omega)
            constructor <;> (simp; omega)
        obtain ⟨r, n, hrn⟩ : ∃ r n, Utf8.decode s pos = (r, n) := ⟨_, _, rfl⟩
        rw [hrn] at hnx hit2 hbw2 hr
        simp only at hnx hit2 hbw2 hr
        obtain ⟨hr1, hr2⟩ := hr
        obtain ⟨S, hS⟩ : ∃ S : ByteArray, s.extract pos s.size = S := ⟨_, rfl⟩
        have hSl : S.data.toList = s.data.toList.drop pos := by rw [← hS, Lib.extract_to_end]
        have hSz : S.size ≤ 9223372036854775807 := by rw [Lib.size_eq, hSl]; simp; omega
        have hc : ∀ W, Calls Tryd.prog 77 #[.string S, .string ⟨#[32, 9]⟩] W fun e w' => e = .returned (.string ⟨(plainL s.data.toList).toArray⟩) ∧ Below W.heap.size W w' := fun W => by
          have := Any.strings_TrimRight_laid Tryd.lays162 (by kernel_rfl) S ⟨#[32, 9]⟩ W hSz (by decide) (ascii_of_all (by decide))
          rw [hSl, htr] at this
          exact this
        have HC := Lib.hid hc
        clear hc hSl hSz htr hda hbl hrn hbw hit
        go_wp2_with fail
        refine (HC.out _).mono ?_
        rintro e w2 ⟨rfl, b2⟩
        go_wp2_with fail
        go_ret
        exact ⟨rfl, below_step hbw2 b2⟩
      · rw [hda, plain_skip hbl] at htr
        have h12 : s[pos] = 32 ∨ s[pos] = 9 := by simp [blanks] at hbl; exact hbl
        have hasc : s[pos].toNat < 128 := by rcases h12 with h | h <;> rw [h] <;> decide
        rw [Go.decode_ascii s pos hp hasc] at hnx hit2 hbw2
        simp only at hnx hit2 hbw2
        obtain ⟨c, hc⟩ : ∃ c, s[pos] = c := ⟨_, rfl⟩
        rw [hc] at hnx h12
        have HT := Lib.hid htr
        clear hda hbl hasc htr hc
        rcases h12 with rfl | rfl
        all_goals
          go_wp2_with fail
          go_roundw
          case rel => exact ⟨pos + 1, hit2, hbw2, HT.out⟩
          case measure => simp only [World.iterPos, hit2, hit]; omega
    · have hnx : ∀ ty, (Instr.next (.pointer (some ⟨w.heap.size, 0, none⟩)) true ty).run Tryd.prog wr = _ := fun ty => Lib.run_next_end_at wr w.heap.size s pos ty hit hp
      have HR := Lib.hid (show plainL s.data.toList = [] by
        unfold plainL
        rw [← htr, drop_end s pos (by omega)]; rfl)
      clear htr
      go_wp2_with fail
      go_ret
      exact ⟨ret_strs HR.out.symm, hbw⟩

end Go.Proofs.YtmllkffdejojbaaDoor
