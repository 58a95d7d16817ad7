/-
  The texts Flank2, FirstLoad, Token3, Token4, InlLink, Close, TokLaw, InlLaw, one behind the other.
-/
import Derived.Test.YtahljcbmckldhaaGreatDoorInlE
import Derived.OrdersHeld
import Derived.RegionTactic
import Derived.Deep.RegionLaw
import Derived.StillTailTactics
import Derived.Deep.QuietTactic
import Derived.BigQuiet
import Derived.BigRegion

/-
  flank.Left, Right, Opens, Closes, Around.
-/
namespace Go.Proofs.YtahljcbmckldhaaGreatDoor
open Go.RowKit
set_option maxRecDepth 100000
set_option linter.unusedVariables false
set_option linter.unusedSimpArgs false

set_option maxHeartbeats 2000000 in
theorem left_any (b a : Int) (w : World) :
    Calls Tryz.prog 53 #[.int .i32 b, .int .i32 a] w fun e w' => e = .returned (.bool (leftL b a)) ∧ Below w.heap.size w w' := by
  obtain ⟨R, hR⟩ : ∃ R, leftL b a = R := ⟨_, rfl⟩
  rw [hR]
  unfold leftL at hR
  have hB0 := Below.refl w.heap.size w
  cases h1 : inSps a spaceSps
  · have H1 := Lib.hid h1
    rw [h1] at hR
    cases h2 : punctL a
    · have H2 := Lib.hid h2
      rw [h2] at hR
      have HR := Lib.hid hR
      clear hR h1 h2
      go_enter Tryz.func53, Tryz.ntmps53
      go_wp2_with fail
      refine (space_any a _).mono ?_
      rintro e w1 ⟨rfl, b1⟩
      have hB1 := below_step hB0 b1
      rw [H1.out]
      go_wp2_with fail
      refine (punct_any a _).mono ?_
      rintro e w2 ⟨rfl, b2⟩
      have hB2 := below_step hB1 b2
      rw [H2.out]
      go_wp2_with fail
      go_ret
      exact ⟨by rw [← HR.out]; rfl, hB2⟩
    · have H2 := Lib.hid h2
      rw [h2] at hR
      cases h3 : inSps b spaceSps
      · have H3 := Lib.hid h3
        rw [h3] at hR
        obtain ⟨q, hq⟩ : ∃ q, punctL b = q := ⟨_, rfl⟩
        have H4 := Lib.hid hq
        rw [hq] at hR
        have HR := Lib.hid (show q = R by rw [← hR]; simp)
        clear hR h1 h2 h3 hq
        go_enter Tryz.func53, Tryz.ntmps53
        go_wp2_with fail
        refine (space_any a _).mono ?_
        rintro e w1 ⟨rfl, b1⟩
        have hB1 := below_step hB0 b1
        rw [H1.out]
        go_wp2_with fail
        refine (punct_any a _).mono ?_
        rintro e w2 ⟨rfl, b2⟩
        have hB2 := below_step hB1 b2
        rw [H2.out]
        go_wp2_with fail
        refine (space_any b _).mono ?_
        rintro e w3 ⟨rfl, b3⟩
        have hB3 := below_step hB2 b3
        rw [H3.out]
        go_wp2_with fail
        refine (punct_any b _).mono ?_
        rintro e w4 ⟨rfl, b4⟩
        have hB4 := below_step hB3 b4
        rw [H4.out]
        go_wp2_with fail
        go_ret
        exact ⟨by rw [← HR.out]; rfl, hB4⟩
      · have H3 := Lib.hid h3
        rw [h3] at hR
        have HR := Lib.hid (show true = R by rw [← hR]; simp)
        clear hR h1 h2 h3
        go_enter Tryz.func53, Tryz.ntmps53
        go_wp2_with fail
        refine (space_any a _).mono ?_
        rintro e w1 ⟨rfl, b1⟩
        have hB1 := below_step hB0 b1
        rw [H1.out]
        go_wp2_with fail
        refine (punct_any a _).mono ?_
        rintro e w2 ⟨rfl, b2⟩
        have hB2 := below_step hB1 b2
        rw [H2.out]
        go_wp2_with fail
        refine (space_any b _).mono ?_
        rintro e w3 ⟨rfl, b3⟩
        have hB3 := below_step hB2 b3
        rw [H3.out]
        go_wp2_with fail
        go_ret
        exact ⟨by rw [← HR.out]; rfl, hB3⟩
  · have H1 := Lib.hid h1
    rw [h1] at hR
    have HR := Lib.hid (show false = R by rw [← hR]; simp)
    clear hR h1
    go_enter Tryz.func53, Tryz.ntmps53
    go_wp2_with fail
    refine (space_any a _).mono ?_
    rintro e w1 ⟨rfl, b1⟩
    have hB1 := below_step hB0 b1
    rw [H1.out]
    go_wp2_with fail
    go_ret
    exact ⟨by rw [← HR.out]; rfl, hB1⟩
theorem right_any (b a : Int) (w : World) :
    Calls Tryz.prog 54 #[.int .i32 b, .int .i32 a] w fun e w' => e = .returned (.bool (rightL b a)) ∧ Below w.heap.size w w' := by
  have HL := Lib.hid (left_any a b w)
  go_enter Tryz.func54, Tryz.ntmps54
  go_wp2_with fail
  refine HL.out.mono ?_
  rintro e w1 ⟨rfl, b1⟩
  go_wp2_with fail
  go_ret
  exact ⟨rfl, b1⟩

theorem sign_eq (c k : UInt8) : ((c.toNat : Int) == (k.toNat : Int)) = decide (c = k) := by
  rw [Bool.eq_iff_iff]
  simp
  constructor
  · intro h; exact UInt8.toNat_inj.1 (by omega)
  · rintro rfl; rfl
set_option maxHeartbeats 2000000 in
theorem opens_any (c : UInt8) (b a : Int) (w : World) :
    Calls Tryz.prog 30 #[.int .u8 (c.toNat : Int), .int .i32 b, .int .i32 a] w fun e w' => e = .returned (.bool (opensL c b a)) ∧ Below w.heap.size w w' := by
  obtain ⟨R, hR⟩ : ∃ R, opensL c b a = R := ⟨_, rfl⟩
  rw [hR]
  unfold opensL at hR
  have other_any := right_any
  have hB0 := Below.refl w.heap.size w
  by_cases s1 : c = 42
  · have k1 : ((c.toNat : Int) == 42) = true := by rw [s1]; rfl
    rw [if_pos s1] at hR
    have HR := Lib.hid hR
    clear hR s1
    go_enter Tryz.func30, Tryz.ntmps30
    go_wp2_with fail
    refine (left_any b a _).mono ?_
    rintro e w1 ⟨rfl, b1⟩
    go_wp2_with fail
    go_ret
    exact ⟨by rw [← HR.out]; rfl, b1⟩
  · have k1 : ((c.toNat : Int) == 42) = false := by rw [show (42 : Int) = ((42 : UInt8).toNat : Int) from rfl, sign_eq]; simpa using s1
    rw [if_neg s1] at hR
    by_cases s2 : c = 95
    · have k2 : ((c.toNat : Int) == 95) = true := by rw [s2]; rfl
      rw [if_pos s2] at hR
      clear s1 s2
      cases h1 : leftL b a
      · have H1 := Lib.hid h1
        rw [h1] at hR
        have HR := Lib.hid (show false = R by rw [← hR]; simp)
        clear hR h1
        go_enter Tryz.func30, Tryz.ntmps30
        go_wp2_with fail
        refine (left_any b a _).mono ?_
        rintro e w1 ⟨rfl, b1⟩
        have hB1 := below_step hB0 b1
        rw [H1.out]
        go_wp2_with fail
        go_ret
        exact ⟨by rw [← HR.out]; rfl, hB1⟩
      · have H1 := Lib.hid h1
        rw [h1] at hR
        cases h2 : rightL b a
        · have H2 := Lib.hid h2
          rw [h2] at hR
          have HR := Lib.hid (show true = R by rw [← hR]; simp)
          clear hR h1 h2
          go_enter Tryz.func30, Tryz.ntmps30
          go_wp2_with fail
          refine (left_any b a _).mono ?_
          rintro e w1 ⟨rfl, b1⟩
          have hB1 := below_step hB0 b1
          rw [H1.out]
          go_wp2_with fail
          refine (other_any b a _).mono ?_
          rintro e w2 ⟨rfl, b2⟩
          have hB2 := below_step hB1 b2
          rw [H2.out]
          go_wp2_with fail
          go_ret
          exact ⟨by rw [← HR.out]; rfl, hB2⟩
        · have H2 := Lib.hid h2
          rw [h2] at hR
          obtain ⟨q, hq⟩ : ∃ q, punctL b = q := ⟨_, rfl⟩
          have H3 := Lib.hid hq
          rw [hq] at hR
          have HR := Lib.hid (show q = R by rw [← hR]; simp)
          clear hR h1 h2 hq
          go_enter Tryz.func30, Tryz.ntmps30
          go_wp2_with fail
          refine (left_any b a _).mono ?_
          rintro e w1 ⟨rfl, b1⟩
          have hB1 := below_step hB0 b1
          rw [H1.out]
          go_wp2_with fail
          refine (other_any b a _).mono ?_
          rintro e w2 ⟨rfl, b2⟩
          have hB2 := below_step hB1 b2
          rw [H2.out]
          go_wp2_with fail
          refine (punct_any b _).mono ?_
          rintro e w3 ⟨rfl, b3⟩
          have hB3 := below_step hB2 b3
          rw [H3.out]
          go_wp2_with fail
          go_ret
          exact ⟨by rw [← HR.out]; rfl, hB3⟩
    · have k2 : ((c.toNat : Int) == 95) = false := by rw [show (95 : Int) = ((95 : UInt8).toNat : Int) from rfl, sign_eq]; simpa using s2
      rw [if_neg s2] at hR
      have HR := Lib.hid hR
      clear hR s1 s2
      go_enter Tryz.func30, Tryz.ntmps30
      go_wp2_with fail
      go_ret
      exact ⟨by rw [← HR.out]; rfl, hB0⟩
set_option maxHeartbeats 2000000 in
theorem closes_any (c : UInt8) (b a : Int) (w : World) :
    Calls Tryz.prog 31 #[.int .u8 (c.toNat : Int), .int .i32 b, .int .i32 a] w fun e w' => e = .returned (.bool (closesL c b a)) ∧ Below w.heap.size w w' := by
  obtain ⟨R, hR⟩ : ∃ R, closesL c b a = R := ⟨_, rfl⟩
  rw [hR]
  unfold closesL at hR
  have other_any := left_any
  have hB0 := Below.refl w.heap.size w
  by_cases s1 : c = 42
  · have k1 : ((c.toNat : Int) == 42) = true := by rw [s1]; rfl
    rw [if_pos s1] at hR
    have HR := Lib.hid hR
    clear hR s1
    go_enter Tryz.func31, Tryz.ntmps31
    go_wp2_with fail
    refine (right_any b a _).mono ?_
    rintro e w1 ⟨rfl, b1⟩
    go_wp2_with fail
    go_ret
    exact ⟨by rw [← HR.out]; rfl, b1⟩
  · have k1 : ((c.toNat : Int) == 42) = false := by rw [show (42 : Int) = ((42 : UInt8).toNat : Int) from rfl, sign_eq]; simpa using s1
    rw [if_neg s1] at hR
    by_cases s2 : c = 95
    · have k2 : ((c.toNat : Int) == 95) = true := by rw [s2]; rfl
      rw [if_pos s2] at hR
      clear s1 s2
      cases h1 : rightL b a
      · have H1 := Lib.hid h1
        rw [h1] at hR
        have HR := Lib.hid (show false = R by rw [← hR]; simp)
        clear hR h1
        go_enter Tryz.func31, Tryz.ntmps31
        go_wp2_with fail
        refine (right_any b a _).mono ?_
        rintro e w1 ⟨rfl, b1⟩
        have hB1 := below_step hB0 b1
        rw [H1.out]
        go_wp2_with fail
        go_ret
        exact ⟨by rw [← HR.out]; rfl, hB1⟩
      · have H1 := Lib.hid h1
        rw [h1] at hR
        cases h2 : leftL b a
        · have H2 := Lib.hid h2
          rw [h2] at hR
          have HR := Lib.hid (show true = R by rw [← hR]; simp)
          clear hR h1 h2
          go_enter Tryz.func31, Tryz.ntmps31
          go_wp2_with fail
          refine (right_any b a _).mono ?_
          rintro e w1 ⟨rfl, b1⟩
          have hB1 := below_step hB0 b1
          rw [H1.out]
          go_wp2_with fail
          refine (other_any b a _).mono ?_
          rintro e w2 ⟨rfl, b2⟩
          have hB2 := below_step hB1 b2
          rw [H2.out]
          go_wp2_with fail
          go_ret
          exact ⟨by rw [← HR.out]; rfl, hB2⟩
        · have H2 := Lib.hid h2
          rw [h2] at hR
          obtain ⟨q, hq⟩ : ∃ q, punctL a = q := ⟨_, rfl⟩
          have H3 := Lib.hid hq
          rw [hq] at hR
          have HR := Lib.hid (show q = R by rw [← hR]; simp)
          clear hR h1 h2 hq
          go_enter Tryz.func31, Tryz.ntmps31
          go_wp2_with fail
          refine (right_any b a _).mono ?_
          rintro e w1 ⟨rfl, b1⟩
          have hB1 := below_step hB0 b1
          rw [H1.out]
          go_wp2_with fail
          refine (other_any b a _).mono ?_
          rintro e w2 ⟨rfl, b2⟩
          have hB2 := below_step hB1 b2
          rw [H2.out]
          go_wp2_with fail
          refine (punct_any a _).mono ?_
          rintro e w3 ⟨rfl, b3⟩
          have hB3 := below_step hB2 b3
          rw [H3.out]
          go_wp2_with fail
          go_ret
          exact ⟨by rw [← HR.out]; rfl, hB3⟩
    · have k2 : ((c.toNat : Int) == 95) = false := by rw [show (95 : Int) = ((95 : UInt8).toNat : Int) from rfl, sign_eq]; simpa using s2
      rw [if_neg s2] at hR
      have HR := Lib.hid hR
      clear hR s1 s2
      go_enter Tryz.func31, Tryz.ntmps31
      go_wp2_with fail
      go_ret
      exact ⟨by rw [← HR.out]; rfl, hB0⟩

set_option maxHeartbeats 4000000 in
/-- The rune that ends at a place, and the one that begins at another one. -/
theorem around_any (s : ByteArray) (x y : Nat) (w : World) (hE : Env w) (hs : s.size ≤ 1000000000) :
    Calls Tryz.prog 29 #[.string s, .int .i64 x, .int .i64 y] w fun e w' => e = .returned (.tuple #[.int .i32 (aroundL s.data.toList x y).1, .int .i32 (aroundL s.data.toList x y).2]) ∧ Below w.heap.size w w' := by
  have HE := Lib.hid hE
  clear hE
  obtain ⟨R, hR⟩ : ∃ R, aroundL s.data.toList x y = R := ⟨_, rfl⟩
  rw [hR]
  have HR := Lib.hid hR
  clear hR
  go_enter Tryz.func29, Tryz.ntmps29
  go_wp2_with fail
  go_loopw [8, 9] (fun u8 u9 wr => ∃ (pos f b a : Nat), u8 = .int .i32 b ∧ u9 = .int .i32 a ∧ wr.heap[w.heap.size]? = some (.stringIter s pos) ∧ Below w.heap.size w wr ∧ aroundGo f (s.data.toList.drop pos) pos x y b a = R ∧ s.size ≤ pos + f) (fun _ _ wr => s.size - wr.iterPos w.heap.size)
  case atStart =>
    refine ⟨0, s.size, 10, 10, rfl, rfl, ?_, (Below.refl _ w).alloc (Nat.le_refl _) _, by have := HR.out; unfold aroundL at this; rw [← Lib.size_eq] at this; exact this, by omega⟩
    have := World.iter_heap w s 0
    simpa using this
  case round =>
    obtain ⟨pos, f, b, a, rfl, rfl, hit, hbw, hgo0, hfu⟩ := hrel
    have hsz : w.heap.size < wr.heap.size := (Array.getElem?_eq_some_iff.1 hit).1
    by_cases hp : pos < s.size
    · have hnx : ∀ ty, (Instr.next (.pointer (some ⟨w.heap.size, 0, none⟩)) true ty).run Tryz.prog wr = _ := fun ty => Lib.run_next_any_at wr w.heap.size s pos ty hit hp
      have hit2 := Lib.iterAt_heap wr w.heap.size s pos (pos + (Utf8.decode s pos).2) hit
      have hbw2 := Lib.below_iterAt hbw (k := w.heap.size) (by omega) s (pos + (Utf8.decode s pos).2)
      obtain ⟨f, rfl⟩ : ∃ g, f = g + 1 := ⟨f - 1, by omega⟩
      have hdl := Lib.decodeL_drop s pos
      have hwd := Lib.decodeL_width (s.data.toList.drop pos)
      have hrl := Lib.decodeL_rune (s.data.toList.drop pos)
      have hne : s.data.toList.drop pos ≠ [] := by intro h0; have := congrArg List.length h0; simp at this; omega
      have hwl := Lib.decodeL_le _ hne
      rw [aroundGo, if_neg hne, List.drop_drop] at hgo0
      have hgo := decodeGo_at s pos hp
      obtain ⟨S, hS⟩ : ∃ S : ByteArray, s.extract pos s.size = S := ⟨_, rfl⟩
      rw [hS] at hgo
      rw [← hdl] at hnx hit2 hbw2
      obtain ⟨r, n, hrn⟩ : ∃ r n, Lib.decodeL (s.data.toList.drop pos) = (r, n) := ⟨_, _, rfl⟩
      rw [hrn] at hnx hit2 hbw2 hwd hrl hwl hgo0 hgo
      simp only at hnx hit2 hbw2 hwd hrl hwl hgo0
      have hn4 : n ≤ 4 := by
        have := width4 (s.data.toList.drop pos)
        rw [hrn] at this; exact this
      have hpn : pos + n ≤ s.size := by simp at hwl; omega
      have HG0 := Lib.hid hgo0
      have HGO := Lib.hid hgo
      clear hgo0 hgo hrn hdl hbw hwl hne
      obtain ⟨wi, hwi⟩ : ∃ wi, wr.iterAt w.heap.size s (pos + n) = wi := ⟨_, rfl⟩
      rw [hwi] at hit2 hbw2
      have hra : runeA r = if r = 0 then 97 else r := rfl
      obtain ⟨ra, hra'⟩ : ∃ q, runeA r = q := ⟨_, rfl⟩
      rw [hra'] at hra
      have HRA := Lib.hid hra
      have HRA' := Lib.hid hra'
      clear hra hra'
      by_cases e1 : pos + n = x
      · have k1 : (((pos : Int) + (n : Int)) == (x : Int)) = true := by simp; omega
        have HE1 := Lib.hid e1
        clear e1
        by_cases e2 : pos = y
        · have k2 : ((pos : Int) == (y : Int)) = true := by simp; omega
          have HE2 := Lib.hid e2
          clear e2
          by_cases e0 : r = 0
          · have k0 : ((r : Int) == 0) = true := by simp; omega
            have HQ := Lib.hid (show ra = 97 by rw [HRA.out, if_pos e0])
            clear e0
            go_wp2_with fail
            refine (Tryz.utf8_DecodeRuneInString S _ (HE.out.below hbw2).u8).mono ?_
            rintro e w4 ⟨rfl, b4⟩
            have hit4 := iter_below hit2 b4
            have hbw4 := below_step hbw2 b4
            rw [HGO.out]
            have HN := Lib.hid (show aroundGo f (s.data.toList.drop (pos + n)) (pos + n) x y (if pos + n = x then ra else b) (if pos = y then ra else a) = R by rw [← HRA'.out]; exact HG0.out)
            go_wp2_with fail
            go_roundw
            case rel => exact ⟨pos + n, f, (if pos + n = x then ra else b), (if pos = y then ra else a), by first | (rw [if_pos HE1.out, HQ.out]; try rfl) | (rw [if_neg HE1.out]), by first | (rw [if_pos HE2.out, HQ.out]; try rfl) | (rw [if_neg HE2.out]), hit4, hbw4, HN.out, by omega⟩
            case measure => simp only [World.iterPos, hit4, hit]; omega
          · have k0 : ((r : Int) == 0) = false := by simp; omega
            have HQ := Lib.hid (show ra = r by rw [HRA.out, if_neg e0])
            clear e0
            go_wp2_with fail
            refine (Tryz.utf8_DecodeRuneInString S _ (HE.out.below hbw2).u8).mono ?_
            rintro e w4 ⟨rfl, b4⟩
            have hit4 := iter_below hit2 b4
            have hbw4 := below_step hbw2 b4
            rw [HGO.out]
            have HN := Lib.hid (show aroundGo f (s.data.toList.drop (pos + n)) (pos + n) x y (if pos + n = x then ra else b) (if pos = y then ra else a) = R by rw [← HRA'.out]; exact HG0.out)
            go_wp2_with fail
            go_roundw
            case rel => exact ⟨pos + n, f, (if pos + n = x then ra else b), (if pos = y then ra else a), by first | (rw [if_pos HE1.out, HQ.out]; try rfl) | (rw [if_neg HE1.out]), by first | (rw [if_pos HE2.out, HQ.out]; try rfl) | (rw [if_neg HE2.out]), hit4, hbw4, HN.out, by omega⟩
            case measure => simp only [World.iterPos, hit4, hit]; omega
        · have k2 : ((pos : Int) == (y : Int)) = false := by simp; omega
          have HE2 := Lib.hid e2
          clear e2
          by_cases e0 : r = 0
          · have k0 : ((r : Int) == 0) = true := by simp; omega
            have HQ := Lib.hid (show ra = 97 by rw [HRA.out, if_pos e0])
            clear e0
            go_wp2_with fail
            refine (Tryz.utf8_DecodeRuneInString S _ (HE.out.below hbw2).u8).mono ?_
            rintro e w4 ⟨rfl, b4⟩
            have hit4 := iter_below hit2 b4
            have hbw4 := below_step hbw2 b4
            rw [HGO.out]
            have HN := Lib.hid (show aroundGo f (s.data.toList.drop (pos + n)) (pos + n) x y (if pos + n = x then ra else b) (if pos = y then ra else a) = R by rw [← HRA'.out]; exact HG0.out)
            go_wp2_with fail
            go_roundw
            case rel => exact ⟨pos + n, f, (if pos + n = x then ra else b), (if pos = y then ra else a), by first | (rw [if_pos HE1.out, HQ.out]; try rfl) | (rw [if_neg HE1.out]), by first | (rw [if_pos HE2.out, HQ.out]; try rfl) | (rw [if_neg HE2.out]), hit4, hbw4, HN.out, by omega⟩
            case measure => simp only [World.iterPos, hit4, hit]; omega
          · have k0 : ((r : Int) == 0) = false := by simp; omega
            have HQ := Lib.hid (show ra = r by rw [HRA.out, if_neg e0])
            clear e0
            go_wp2_with fail
            refine (Tryz.utf8_DecodeRuneInString S _ (HE.out.below hbw2).u8).mono ?_
            rintro e w4 ⟨rfl, b4⟩
            have hit4 := iter_below hit2 b4
            have hbw4 := below_step hbw2 b4
            rw [HGO.out]
            have HN := Lib.hid (show aroundGo f (s.data.toList.drop (pos + n)) (pos + n) x y (if pos + n = x then ra else b) (if pos = y then ra else a) = R by rw [← HRA'.out]; exact HG0.out)
            go_wp2_with fail
            go_roundw
            case rel => exact ⟨pos + n, f, (if pos + n = x then ra else b), (if pos = y then ra else a), by first | (rw [if_pos HE1.out, HQ.out]; try rfl) | (rw [if_neg HE1.out]), by first | (rw [if_pos HE2.out, HQ.out]; try rfl) | (rw [if_neg HE2.out]), hit4, hbw4, HN.out, by omega⟩
            case measure => simp only [World.iterPos, hit4, hit]; omega
      · have k1 : (((pos : Int) + (n : Int)) == (x : Int)) = false := by simp; omega
        have HE1 := Lib.hid e1
        clear e1
        by_cases e2 : pos = y
        · have k2 : ((pos : Int) == (y : Int)) = true := by simp; omega
          have HE2 := Lib.hid e2
          clear e2
          by_cases e0 : r = 0
          · have k0 : ((r : Int) == 0) = true := by simp; omega
            have HQ := Lib.hid (show ra = 97 by rw [HRA.out, if_pos e0])
            clear e0
            go_wp2_with fail
            refine (Tryz.utf8_DecodeRuneInString S _ (HE.out.below hbw2).u8).mono ?_
            rintro e w4 ⟨rfl, b4⟩
            have hit4 := iter_below hit2 b4
            have hbw4 := below_step hbw2 b4
            rw [HGO.out]
            have HN := Lib.hid (show aroundGo f (s.data.toList.drop (pos + n)) (pos + n) x y (if pos + n = x then ra else b) (if pos = y then ra else a) = R by rw [← HRA'.out]; exact HG0.out)
            go_wp2_with fail
            go_roundw
            case rel => exact ⟨pos + n, f, (if pos + n = x then ra else b), (if pos = y then ra else a), by first | (rw [if_pos HE1.out, HQ.out]; try rfl) | (rw [if_neg HE1.out]), by first | (rw [if_pos HE2.out, HQ.out]; try rfl) | (rw [if_neg HE2.out]), hit4, hbw4, HN.out, by omega⟩
            case measure => simp only [World.iterPos, hit4, hit]; omega
          · have k0 : ((r : Int) == 0) = false := by simp; omega
            have HQ := Lib.hid (show ra = r by rw [HRA.out, if_neg e0])
            clear e0
            go_wp2_with fail
            refine (Tryz.utf8_DecodeRuneInString S _ (HE.out.below hbw2).u8).mono ?_
            rintro e w4 ⟨rfl, b4⟩
            have hit4 := iter_below hit2 b4
            have hbw4 := below_step hbw2 b4
            rw [HGO.out]
            have HN := Lib.hid (show aroundGo f (s.data.toList.drop (pos + n)) (pos + n) x y (if pos + n = x then ra else b) (if pos = y then ra else a) = R by rw [← HRA'.out]; exact HG0.out)
            go_wp2_with fail
            go_roundw
            case rel => exact ⟨pos + n, f, (if pos + n = x then ra else b), (if pos = y then ra else a), by first | (rw [if_pos HE1.out, HQ.out]; try rfl) | (rw [if_neg HE1.out]), by first | (rw [if_pos HE2.out, HQ.out]; try rfl) | (rw [if_neg HE2.out]), hit4, hbw4, HN.out, by omega⟩
            case measure => simp only [World.iterPos, hit4, hit]; omega
        · have k2 : ((pos : Int) == (y : Int)) = false := by simp; omega
          have HE2 := Lib.hid e2
          clear e2
          by_cases e0 : r = 0
          · have k0 : ((r : Int) == 0) = true := by simp; omega
            have HQ := Lib.hid (show ra = 97 by rw [HRA.out, if_pos e0])
            clear e0
            go_wp2_with fail
            refine (Tryz.utf8_DecodeRuneInString S _ (HE.out.below hbw2).u8).mono ?_
            rintro e w4 ⟨rfl, b4⟩
            have hit4 := iter_below hit2 b4
            have hbw4 := below_step hbw2 b4
            rw [HGO.out]
            have HN := Lib.hid (show aroundGo f (s.data.toList.drop (pos + n)) (pos + n) x y (if pos + n = x then ra else b) (if pos = y then ra else a) = R by rw [← HRA'.out]; exact HG0.out)
            go_wp2_with fail
            go_roundw
            case rel => exact ⟨pos + n, f, (if pos + n = x then ra else b), (if pos = y then ra else a), by first | (rw [if_pos HE1.out, HQ.out]; try rfl) | (rw [if_neg HE1.out]), by first | (rw [if_pos HE2.out, HQ.out]; try rfl) | (rw [if_neg HE2.out]), hit4, hbw4, HN.out, by omega⟩
            case measure => simp only [World.iterPos, hit4, hit]; omega
          · have k0 : ((r : Int) == 0) = false := by simp; omega
            have HQ := Lib.hid (show ra = r by rw [HRA.out, if_neg e0])
            clear e0
            go_wp2_with fail
            refine (Tryz.utf8_DecodeRuneInString S _ (HE.out.below hbw2).u8).mono ?_
            rintro e w4 ⟨rfl, b4⟩
            have hit4 := iter_below hit2 b4
            have hbw4 := below_step hbw2 b4
            rw [HGO.out]
            have HN := Lib.hid (show aroundGo f (s.data.toList.drop (pos + n)) (pos + n) x y (if pos + n = x then ra else b) (if pos = y then ra else a) = R by rw [← HRA'.out]; exact HG0.out)
            go_wp2_with fail
            go_roundw
            case rel => exact ⟨pos + n, f, (if pos + n = x then ra else b), (if pos = y then ra else a), by first | (rw [if_pos HE1.out, HQ.out]; try rfl) | (rw [if_neg HE1.out]), by first | (rw [if_pos HE2.out, HQ.out]; try rfl) | (rw [if_neg HE2.out]), hit4, hbw4, HN.out, by omega⟩
            case measure => simp only [World.iterPos, hit4, hit]; omega
    · have hnx : ∀ ty, (Instr.next (.pointer (some ⟨w.heap.size, 0, none⟩)) true ty).run Tryz.prog wr = _ := fun ty => Lib.run_next_end_at wr w.heap.size s pos ty hit hp
      have hend : R = (b, a) := by
        rw [← hgo0, drop_end s pos (by omega)]
        cases f with
        | zero => rfl
        | succ f => rw [aroundGo, if_pos rfl]
      have HEN := Lib.hid hend
      clear hgo0 hend
      go_wp2_with fail
      go_ret2
      exact ⟨by rw [HEN.out]; rfl, hbw⟩

end Go.Proofs.YtahljcbmckldhaaGreatDoor

/-
  A region that draws its order: a load may be taken first where what it reads is kept until the one operation that writes it. What is asked behind an operation hangs on which one it is.
-/
namespace Go.Proofs.YtahljcbmckldhaaGreatDoor
open Go
set_option linter.unusedVariables false
set_option linter.unusedSimpArgs false

section
variable {P : Program} {ops : Array Oper} {Q : Exit → Act → World → Prop} {md : Region.Mode} {S : Nat → World → Prop}

/-- Whatever order is picked from here on; behind operation i, 'S i' holds. -/
def wpAnyI (P : Program) (md : Region.Mode) (ops : Array Oper) (Q : Exit → Act → World → Prop) (S : Nat → World → Prop) : Nat → Array Bool → Act → World → Prop
  | 0, listed, a, w => Region.ready md ops listed = [] ∧ Q .normal a w
  | fuel + 1, listed, a, w =>
    (Region.ready md ops listed = [] → Q .normal a w) ∧
    ∀ i ∈ Region.ready md ops listed, wpOp P ops Q i (fun a' w' => S i w' ∧ wpAnyI P md ops Q S fuel (listed.setIfInBounds i true) a' w') a w

theorem wpAny_of_I : ∀ (fuel : Nat) (listed : Array Bool) (a : Act) (w : World), wpAnyI P md ops Q S fuel listed a w → wpAny P md ops Q fuel listed a w
  | 0, _, _, _, h => h
  | fuel + 1, _, _, _, h => ⟨h.1, fun i hi => wpOp_mono (fun a' w' h' => wpAny_of_I fuel _ a' w' h'.2) (h.2 i hi)⟩

/-- What has come up, with all that it waited for. -/
def ShutUp (md : Region.Mode) (ops : Array Oper) (listed : Array Bool) : Prop := listed.size = ops.size ∧ ∀ j oj, ops[j]? = some oj → listed.getD j false = true → ∀ e ∈ oj.after, Region.binds md e = true → listed.getD e.on false = true
theorem getD_bool {l : Array Bool} {i : Nat} (h : l.getD i true = false) : l.getD i false = false := by
  rcases Nat.lt_or_ge i l.size with h' | h'
  · simp [h'] at h ⊢; exact h
  · simp [Array.getElem?_eq_none h'] at h
theorem ShutUp.set {listed : Array Bool} (h : ShutUp md ops listed) {i : Nat} (hi : i ∈ Region.ready md ops listed) : ShutUp md ops (listed.setIfInBounds i true) := by
  obtain ⟨_, oi, hoi, hall⟩ := mem_ready.1 hi
  refine ⟨by simp [h.1], fun j oj hj hl e he hb => ?_⟩
  by_cases hij : i = j
  · subst hij
    obtain rfl : oj = oi := Option.some.inj (hj.symm.trans hoi)
    exact getD_set_true (hall e he hb)
  · rw [getD_set_ne false hij] at hl
    exact getD_set_true (h.2 j oj hj hl e he hb)

theorem getD_more {l : Array Bool} {i k : Nat} (h : l.getD k true = true) : (l.setIfInBounds i true).getD k true = true := by
  by_cases hik : i = k
  · subst hik
    rcases Nat.lt_or_ge i l.size with h' | h'
    · simp [h']
    · simp [Array.getElem?_eq_none h']
  · rw [getD_set_ne true hik]; exact h
/-- t waits for i, directly or through others. -/
def leadsB (md : Region.Mode) (ops : Array Oper) : Nat → Nat → Nat → Bool
  | 0, _, _ => false
  | n + 1, t, i => match ops[t]? with
    | some o => o.after.any fun e => Region.binds md e && (e.on == i || leadsB md ops n e.on i)
    | none => false
theorem listed_leads {l : Array Bool} {i : Nat} (hsh : ShutUp md ops l) : ∀ n t, leadsB md ops n t i = true → l.getD t false = true → l.getD i false = true
  | 0, _, h, _ => by simp [leadsB] at h
  | n + 1, t, h, ht => by
    unfold leadsB at h
    cases ho : ops[t]? with
    | none => rw [ho] at h; cases h
    | some o =>
      rw [ho] at h
      obtain ⟨e, he, hb⟩ := Array.any_eq_true'.1 h
      simp only [Bool.and_eq_true, Bool.or_eq_true, beq_iff_eq] at hb
      have h1 := hsh.2 t o ho ht e he hb.1
      rcases hb.2 with h2 | h2
      · rw [← h2]; exact h1
      · exact listed_leads hsh n e.on h2 h1
theorem ready_leads {l : Array Bool} {i t n : Nat} (hsh : ShutUp md ops l) (h : leadsB md ops n t i = true) (hr : t ∈ Region.ready md ops l) : l.getD i false = true := by
  obtain ⟨_, o, ho, hall⟩ := mem_ready.1 hr
  cases n with
  | zero => simp [leadsB] at h
  | succ n =>
    unfold leadsB at h
    rw [ho] at h
    obtain ⟨e, he, hb⟩ := Array.any_eq_true'.1 h
    simp only [Bool.and_eq_true, Bool.or_eq_true, beq_iff_eq] at hb
    have h1 := hall e he hb.1
    rcases hb.2 with h2 | h2
    · rw [← h2]; exact h1
    · exact listed_leads hsh n e.on h2 h1
/-- Who may come up ahead of i: those of G alone. -/
def aheadB (md : Region.Mode) (ops : Array Oper) (listed : Array Bool) (i : Nat) (G : List Nat) : Bool :=
  (List.range ops.size).all fun j => listed.getD j true || j == i || leadsB md ops ops.size j i || G.contains j

/-- An operation that may come up now may be taken first, if it yields its value in every world that meets S0, and S0 holds behind every operation that may come up ahead of it. -/
theorem wpAnyI_first {S0 : World → Prop} {i : Nat} {oi : Oper} {v : Value} (hi : ops[i]? = some oi) (hsel : ∀ (j : Nat) (o : Oper) cs b, ops[j]? = some o → o.op ≠ .select cs b)
    (hQ : ∀ c a w, Q (.panic c) (a.put oi.dst v) w → Q (.panic c) a w) (hSi : ∀ w, S0 w → S i w)
    (l0 : Array Bool) (hS0 : ∀ (j : Nat) (l : Array Bool), ShutUp md ops l → (∀ k, l0.getD k true = true → l.getD k true = true) → l.getD i true = false → j ∈ Region.ready md ops l → j ≠ i → ∀ w, S j w → S0 w) :
    ∀ (fuel : Nat) (listed : Array Bool) (a : Act) (w : World), ShutUp md ops listed → (∀ k, l0.getD k true = true → listed.getD k true = true) →
      (∀ j oj, ops[j]? = some oj → j ≠ i → listed.getD j true = false → (∀ e ∈ oj.after, Region.binds md e = true → e.on ≠ i) → oi.apart ops oj = true) →
      i ∈ Region.ready md ops listed → YieldsIf P ops S0 oi v a → S0 w →
      wpAnyI P md ops Q S fuel (listed.setIfInBounds i true) (a.put oi.dst v) w → wpAnyI P md ops Q S (fuel + 1) listed a w := by
  intro fuel
  induction fuel with
  | zero =>
    intro listed a w _ _ _ hr hy hS H
    refine ⟨fun h => (by rw [h] at hr; cases hr), fun j hj => ?_⟩
    by_cases hji : j = i
    · subst hji; exact hy.wpOp hi hS ⟨hSi w hS, H⟩
    · have := ready_mono hj hji
      rw [H.1] at this
      cases this
  | succ fuel ih =>
    intro listed a w hsh hext hfree hr hy hS H
    refine ⟨fun h => (by rw [h] at hr; cases hr), fun j hj => ?_⟩
    by_cases hji : j = i
    · subst hji; exact hy.wpOp hi hS ⟨hSi w hS, H⟩
    · have h1 := H.2 j (ready_mono hj hji)
      obtain ⟨hjun, oj, hoj, hall⟩ := mem_ready.1 hj
      have hnot : ∀ e ∈ oj.after, Region.binds md e = true → e.on ≠ i := fun e he hb heq => by
        have h1 := hall e he hb
        have h0 := (mem_ready.1 hr).1
        rw [heq] at h1
        rcases Nat.lt_or_ge i listed.size with h' | h'
        · simp [h'] at h0 h1; rw [h0] at h1; cases h1
        · simp [Array.getElem?_eq_none h'] at h1
      have h2 := wpOp_putIf hoj (hfree j oj hoj hji hjun hnot) (fun cs b => hsel i oi cs b hi) (fun cs b => hsel j oj cs b hoj) hQ hy h1
      have hfree' : ∀ k ok, ops[k]? = some ok → k ≠ i → (listed.setIfInBounds j true).getD k true = false →
          (∀ e ∈ ok.after, Region.binds md e = true → e.on ≠ i) → oi.apart ops ok = true := fun k ok hk hki hun hno => by
        refine hfree k ok hk hki ?_ hno
        by_cases hjk : j = k
        · subst hjk; exact hjun
        · rw [getD_set_ne true hjk] at hun; exact hun
      refine wpOp_mono (fun a' w' h3 => ⟨h3.2.1, ih (listed.setIfInBounds j true) a' w' (hsh.set hj) (fun k hk => getD_more (hext k hk)) hfree' (ready_mono hr (Ne.symm hji)) h3.1 (hS0 j listed hsh hext (mem_ready.1 hr).1 hj hji w' h3.2.1) ?_⟩) h2
      rw [Array.setIfInBounds_comm _ _ hji]
      exact h3.2.2

/-- For the kernel: 'ShutUp'. -/
def shutUpB (md : Region.Mode) (ops : Array Oper) (listed : Array Bool) : Bool :=
  listed.size == ops.size && (List.range ops.size).all fun j => match ops[j]? with
    | some oj => !(listed.getD j false) || oj.after.all fun e => !(Region.binds md e) || listed.getD e.on false
    | none => true
theorem ShutUp.of {listed : Array Bool} (h : shutUpB md ops listed = true) : ShutUp md ops listed := by
  unfold shutUpB at h
  simp only [Bool.and_eq_true, beq_iff_eq] at h
  refine ⟨h.1, fun j oj hj hl e he hb => ?_⟩
  have h1 := List.all_eq_true.1 h.2 j (List.mem_range.2 (Array.getElem?_eq_some_iff.1 hj).1)
  simp only [hj, hl, Bool.not_true, Bool.false_or] at h1
  have h2 := Array.all_eq_true'.1 h1 e he
  simpa [hb] using h2

/-- A plain take: what yields in whatever world, or where S always gives it. -/
theorem wpAnyI_take {S0 : World → Prop} {i : Nat} {oi : Oper} {v : Value} {fuel : Nat} {listed : Array Bool} {a : Act} {w : World} (hi : ops[i]? = some oi)
    (hs : Region.noSelect ops = true) (hf : Region.free md ops listed i = true) (hr : (Region.ready md ops listed).contains i = true) (hsh : shutUpB md ops listed = true) (G : List Nat) (hG : aheadB md ops listed i G = true)
    (hQ : ∀ c a w, Q (.panic c) (a.put oi.dst v) w → Q (.panic c) a w) (hSi : ∀ w, S0 w → S i w)
    (hS0 : ∀ j ∈ G, ∀ w, S j w → S0 w)
    (d : Option Tmp) (hd : oi.dst = d) (hy : YieldsIf P ops S0 oi v a) (hS : S0 w)
    (h : wpAnyI P md ops Q S fuel (listed.setIfInBounds i true) (a.put d v) w) : wpAnyI P md ops Q S (fuel + 1) listed a w := by
  subst hd
  exact wpAnyI_first hi (Region.noSelect_spec hs) hQ hSi listed (fun j l hl hext hun hj hji w' h1 => by
    have hjl := mem_ready.1 hj
    obtain ⟨_, oj, hoj, _⟩ := hjl
    have h2 := List.all_eq_true.1 hG j (List.mem_range.2 (Array.getElem?_eq_some_iff.1 hoj).1)
    simp only [Bool.or_eq_true, beq_iff_eq, List.contains_iff_mem] at h2
    rcases h2 with ((h2 | h2) | h2) | h2
    · have := hext j h2
      rw [(mem_ready.1 hj).1] at this
      cases this
    · exact absurd h2 hji
    · have := ready_leads hl h2 hj
      rw [getD_bool hun] at this
      cases this
    · exact hS0 j h2 w' h1) fuel listed a w (ShutUp.of hsh) (fun _ h => h) (Region.free_spec hi hf) (by simpa using hr) hy hS h
/-- One alone may come up. -/
theorem wpAnyI_one {i : Nat} {o : Oper} {fuel : Nat} {listed : Array Bool} {a : Act} {w : World} (hr : Region.ready md ops listed = [i]) (ho : ops[i]? = some o)
    (h : ∀ K' : Act → World → Prop, (∀ a w, S i w ∧ wpAnyI P md ops Q S fuel (listed.setIfInBounds i true) a w → K' a w) → if Region.wanted o (yielded ops a.tmps) = true then Oper.wp P o a w K' Q else K' (a.put o.dst undef) w) :
    wpAnyI P md ops Q S (fuel + 1) listed a w :=
  ⟨fun h0 => (by rw [hr] at h0; cases h0), by rw [hr]; intro j hj; rw [List.mem_singleton.1 hj]; exact wpOp_step ho h⟩
theorem wpAnyI_done {listed : Array Bool} {a : Act} {w : World} (hr : Region.ready md ops listed = []) (h : Q .normal a w) : ∀ fuel, wpAnyI P md ops Q S fuel listed a w
  | 0 => ⟨hr, h⟩
  | _ + 1 => ⟨fun _ => h, by rw [hr]; simp⟩
theorem wp_region_I {id : Nat} {a : Act} {w : World} (hm : P.follows .mixedOrders = true)
    (h : wpAnyI P .any ops Q S ops.size (Array.replicate ops.size false) a w.drew) : (Code.region id ops true).wp P Q a w :=
  wp_region_any hm (wpAny_of_I _ _ _ _ h)

end
end Go.Proofs.YtahljcbmckldhaaGreatDoor

/-
  inline.parser.token: a row of signs.
-/
namespace Go.Proofs.YtahljcbmckldhaaGreatDoor
open Go.RowKit
set_option maxRecDepth 100000
set_option linter.unusedVariables false
set_option linter.unusedSimpArgs false


set_option maxHeartbeats 8000000 in
theorem tk_run (B0 P : Nat) (s : ByteArray) (av tv : Value) (t : Option (List DefL)) (ts : List AtomT) (c : UInt8) (n : Nat) (st : PSt) (i next : Nat) (w : World) (hL : Low B0 w tv av t ts) (hP0 : B0 ≤ P) (h : StAt w B0 P s av tv st) (hn : st.items.length ≤ 1000000000) (hs : s.size ≤ 1000000) :
    Calls Tryz.prog 19 #[.pointer (some ⟨P, 0, none⟩), (Tok.run c n).val, .int .i64 i, .int .i64 next] w fun e w' => e = .returned (.int .i64 next) ∧ StAt w' B0 P s av tv { st with items := st.items ++ [⟨c, n, opensL c (aroundL s.data.toList i next).1 (aroundL s.data.toList i next).2, closesL c (aroundL s.data.toList i next).1 (aroundL s.data.toList i next).2, []⟩] } ∧ Below B0 w w' := by
  obtain ⟨i0, hi, hz0, hz1, hz2⟩ := info_parts infoItem
  have hs0 := st_size hP0 h
  obtain ⟨iao, ic, oao, oc, its, hV⟩ := h.vals
  have hb1 : Below w.heap.size w (w.alloc (.cells #[.string ⟨#[]⟩, .string ⟨#[]⟩] 79)) := (Below.refl _ w).alloc (Nat.le_refl _) _
  have hb2 := hb1.alloc hb1.size (.cells #[.bool false] 83)
  have hb3 := hb2.alloc hb2.size (.cells #[.int .i64 0] 86)
  have HX := Lib.hid (And.intro hb3 hV)
  have HL := Lib.hid hL
  obtain ⟨ba, aa, hba⟩ : ∃ x y, aroundL s.data.toList i next = (x, y) := ⟨_, _, rfl⟩
  rw [hba]
  simp only
  have HAR := Lib.hid (fun W (hW : Env W) => by have := around_any s i next W hW (by omega); rw [hba] at this; exact this)
  obtain ⟨op, hop⟩ : ∃ b, opensL c (ba : Int) (aa : Int) = b := ⟨_, rfl⟩
  obtain ⟨cl, hcl⟩ : ∃ b, closesL c (ba : Int) (aa : Int) = b := ⟨_, rfl⟩
  have HOP := Lib.hid (fun W => by have := opens_any c (ba : Int) (aa : Int) W; rw [hop] at this; exact this)
  have HCL := Lib.hid (fun W => by have := closes_any c (ba : Int) (aa : Int) W; rw [hcl] at this; exact this)
  rw [hop, hcl]
  have q1 := tb_Run_Word
  have q2 := tb_Run_Code
  have q3 := tb_Run_Tag
  have q4 := tb_Run_Auto
  have q5 := tb_Run_Break
  have q6 := tb_Run_Atom
  have q7 := tb_Run_Run
  clear h hV hb1 hb2 hb3 hba hop hcl hL
  show Calls Tryz.prog _ #[_, .iface 89 (.agg #[.int .u8 (c.toNat : Int), .int .i64 (n : Int)]), _, _] w _
  go_enter Tryz.func19, Tryz.ntmps19
  go_wp2_with fail
  go_quiet (fail)
  obtain ⟨hb3, hV⟩ := HX.out
  have hb4 := below_drewsN hb3 nq
  obtain ⟨W, hW⟩ : ∃ W, (((w.alloc (.cells #[.string ⟨#[]⟩, .string ⟨#[]⟩] 79)).alloc (.cells #[.bool false] 83)).alloc (.cells #[.int .i64 0] 86)).drewN nq = W := ⟨_, rfl⟩
  rw [hW] at hb4 ⊢
  have hb5 := hb4.alloc hb4.size (.cells #[.int .u8 (c.toNat : Int), .int .i64 (n : Int)] 89)
  have hk1 : (W.alloc (.cells #[.int .u8 (c.toNat : Int), .int .i64 (n : Int)] 89)).heap[W.heap.size]? = some (.cells #[.int .u8 (c.toNat : Int), .int .i64 (n : Int)] 89 (0, 0)) := heap_alloc_new W _
  obtain ⟨p0, _, _, _, _⟩ := ParAt.cells (hV.below hb5).par
  have HY := Lib.hid (And.intro hb5 (And.intro hk1 (show P < W.heap.size by have := hb4.size; have := par_lt hV.par; omega)))
  clear hW hb3 hV hb4 hb5 hk1
  go_wp2_with fail
  refine (HAR.out _ (HL.out.step (HY.out.1.mono hs0)).here.1).mono ?_
  rintro e w2 ⟨rfl, b2⟩
  obtain ⟨hb5, hk1, hPk⟩ := HY.out
  have hk2 := (b2.block _ (Array.getElem?_eq_some_iff.1 hk1).1).trans hk1
  have hB2 := below_step hb5 b2
  have hB2d := hB2.drew
  have hV2 := HX.out.2.below hB2d
  have hkl : W.heap.size < w2.heap.size := (Array.getElem?_eq_some_iff.1 hk2).1
  obtain ⟨_, _, _, p3, _⟩ := ParAt.cells hV2.par
  replace p3 : w2.cell? ⟨P, 3, none⟩ = some (.slice iao st.items.length ic) := p3
  have c0 : w2.cell? ⟨W.heap.size, 0, none⟩ = some (.int .u8 (c.toNat : Int)) := by rw [cell_of_row w2 W.heap.size 0 _ _ _ hk2]; rfl
  have c1 : w2.cell? ⟨W.heap.size, 1, none⟩ = some (.int .i64 (n : Int)) := by rw [cell_of_row w2 W.heap.size 1 _ _ _ hk2]; rfl
  have hkP : W.heap.size ≠ P := by omega
  have hone : ∀ u ∈ [Value.int .u8 (c.toNat : Int), .int .i64 (n : Int), .bool op, .bool cl, .slice none 0 0], u.oneCell' = true := by
    intro u hu; simp at hu; rcases hu with rfl | rfl | rfl | rfl | rfl <;> rfl
  have h63 : st.items.length + 1 ≤ maxLen := by unfold maxLen; omega
  have hby : (st.items.length + 1) * 48 ≤ 140737488355328 := by omega
  have HB2d := Lib.hid (And.intro hB2d hV2)
  have HK2 := Lib.hid hk2
  have HON := Lib.hid hone
  clear p0 b2 hb5 hk1 HY HAR hB2 hB2d hV2 hk2 hone
  go_wp2_with fail
  refine wp_region_I (S := fun j W' => ([4, 6, 8, 10, 15, 13, 18, 19, 20].contains j = true) → (W'.cell? ⟨W.heap.size, 0, none⟩ = some (.int .u8 (c.toNat : Int)) ∧ W'.cell? ⟨W.heap.size, 1, none⟩ = some (.int .i64 (n : Int)) ∧ W'.cell? ⟨P, 3, none⟩ = some (.slice iao st.items.length ic))) (by kernel_rfl) ?_
  refine wpAnyI_take (S0 := fun _ => True) (i := 0) (v := ?_) rfl (by kernel_rfl) (by kernel_rfl) (by kernel_rfl) (by kernel_rfl) (List.range 25) (by kernel_rfl) (fun _ _ _ h => h) (fun _ _ h => absurd h (by decide)) (fun _ _ _ _ => trivial) (some 154) rfl (Or.inl ⟨by rfl, ?_⟩) trivial ?_
  rotate_left
  · intro w' _; go_simp <;> with_reducible rfl
  try simp only [Act.put, List.setIfInBounds_toArray, List.set_cons_zero, List.set_cons_succ]
  refine wpAnyI_take (S0 := fun _ => True) (i := 1) (v := ?_) rfl (by kernel_rfl) (by kernel_rfl) (by kernel_rfl) (by kernel_rfl) (List.range 25) (by kernel_rfl) (fun _ _ _ h => h) (fun _ _ h => absurd h (by decide)) (fun _ _ _ _ => trivial) (some 155) rfl (Or.inl ⟨by rfl, ?_⟩) trivial ?_
  rotate_left
  · intro w' _; go_simp <;> with_reducible rfl
  try simp only [Act.put, List.setIfInBounds_toArray, List.set_cons_zero, List.set_cons_succ]
  refine wpAnyI_take (S0 := fun _ => True) (i := 2) (v := ?_) rfl (by kernel_rfl) (by kernel_rfl) (by kernel_rfl) (by kernel_rfl) (List.range 25) (by kernel_rfl) (fun _ _ _ h => h) (fun _ _ h => absurd h (by decide)) (fun _ _ _ _ => trivial) (some 156) rfl (Or.inl ⟨by rfl, ?_⟩) trivial ?_
  rotate_left
  · intro w' _; go_simp <;> with_reducible rfl
  try simp only [Act.put, List.setIfInBounds_toArray, List.set_cons_zero, List.set_cons_succ]
  refine wpAnyI_take (S0 := fun _ => True) (i := 3) (v := ?_) rfl (by kernel_rfl) (by kernel_rfl) (by kernel_rfl) (by kernel_rfl) (List.range 25) (by kernel_rfl) (fun _ _ _ h => h) (fun _ _ h => absurd h (by decide)) (fun _ _ _ _ => trivial) (some 157) rfl (Or.inl ⟨by rfl, ?_⟩) trivial ?_
  rotate_left
  · intro w' _; go_simp <;> with_reducible rfl
  try simp only [Act.put, List.setIfInBounds_toArray, List.set_cons_zero, List.set_cons_succ]
  refine wpAnyI_take (S0 := fun _ => True) (i := 5) (v := ?_) rfl (by kernel_rfl) (by kernel_rfl) (by kernel_rfl) (by kernel_rfl) (List.range 25) (by kernel_rfl) (fun _ _ _ h => h) (fun _ _ h => absurd h (by decide)) (fun _ _ _ _ => trivial) (some 159) rfl (Or.inl ⟨by rfl, ?_⟩) trivial ?_
  rotate_left
  · intro w' _; go_simp <;> with_reducible rfl
  try simp only [Act.put, List.setIfInBounds_toArray, List.set_cons_zero, List.set_cons_succ]
  refine wpAnyI_take (S0 := fun _ => True) (i := 7) (v := ?_) rfl (by kernel_rfl) (by kernel_rfl) (by kernel_rfl) (by kernel_rfl) (List.range 25) (by kernel_rfl) (fun _ _ _ h => h) (fun _ _ h => absurd h (by decide)) (fun _ _ _ _ => trivial) (some 161) rfl (Or.inl ⟨by rfl, ?_⟩) trivial ?_
  rotate_left
  · intro w' _; go_simp <;> with_reducible rfl
  try simp only [Act.put, List.setIfInBounds_toArray, List.set_cons_zero, List.set_cons_succ]
  refine wpAnyI_take (S0 := fun _ => True) (i := 9) (v := ?_) rfl (by kernel_rfl) (by kernel_rfl) (by kernel_rfl) (by kernel_rfl) (List.range 25) (by kernel_rfl) (fun _ _ _ h => h) (fun _ _ h => absurd h (by decide)) (fun _ _ _ _ => trivial) (some 163) rfl (Or.inl ⟨by rfl, ?_⟩) trivial ?_
  rotate_left
  · intro w' _; go_simp <;> with_reducible rfl
  try simp only [Act.put, List.setIfInBounds_toArray, List.set_cons_zero, List.set_cons_succ]
  refine wpAnyI_take (S0 := fun _ => True) (i := 11) (v := ?_) rfl (by kernel_rfl) (by kernel_rfl) (by kernel_rfl) (by kernel_rfl) (List.range 25) (by kernel_rfl) (fun _ _ _ h => h) (fun _ _ h => absurd h (by decide)) (fun _ _ _ _ => trivial) (some 165) rfl (Or.inl ⟨by rfl, ?_⟩) trivial ?_
  rotate_left
  · intro w' _; go_simp <;> with_reducible rfl
  try simp only [Act.put, List.setIfInBounds_toArray, List.set_cons_zero, List.set_cons_succ]
  refine wpAnyI_take (S0 := fun _ => True) (i := 12) (v := ?_) rfl (by kernel_rfl) (by kernel_rfl) (by kernel_rfl) (by kernel_rfl) (List.range 25) (by kernel_rfl) (fun _ _ _ h => h) (fun _ _ h => absurd h (by decide)) (fun _ _ _ _ => trivial) (some 166) rfl (Or.inl ⟨by rfl, ?_⟩) trivial ?_
  rotate_left
  · intro w' _; go_simp <;> with_reducible rfl
  try simp only [Act.put, List.setIfInBounds_toArray, List.set_cons_zero, List.set_cons_succ]
  refine wpAnyI_take (S0 := fun _ => True) (i := 14) (v := ?_) rfl (by kernel_rfl) (by kernel_rfl) (by kernel_rfl) (by kernel_rfl) (List.range 25) (by kernel_rfl) (fun _ _ _ h => h) (fun _ _ h => absurd h (by decide)) (fun _ _ _ _ => trivial) (some 168) rfl (Or.inl ⟨by rfl, ?_⟩) trivial ?_
  rotate_left
  · intro w' _; go_simp <;> with_reducible rfl
  try simp only [Act.put, List.setIfInBounds_toArray, List.set_cons_zero, List.set_cons_succ]
  refine wpAnyI_take (S0 := fun _ => True) (i := 16) (v := ?_) rfl (by kernel_rfl) (by kernel_rfl) (by kernel_rfl) (by kernel_rfl) (List.range 25) (by kernel_rfl) (fun _ _ _ h => h) (fun _ _ h => absurd h (by decide)) (fun _ _ _ _ => trivial) (some 170) rfl (Or.inl ⟨by rfl, ?_⟩) trivial ?_
  rotate_left
  · intro w' _; go_simp <;> with_reducible rfl
  try simp only [Act.put, List.setIfInBounds_toArray, List.set_cons_zero, List.set_cons_succ]
  refine wpAnyI_take (S0 := fun _ => True) (i := 17) (v := ?_) rfl (by kernel_rfl) (by kernel_rfl) (by kernel_rfl) (by kernel_rfl) (List.range 25) (by kernel_rfl) (fun _ _ _ h => h) (fun _ _ h => absurd h (by decide)) (fun _ _ _ _ => trivial) (some 171) rfl (Or.inl ⟨by rfl, ?_⟩) trivial ?_
  rotate_left
  · intro w' _; go_simp <;> with_reducible rfl
  try simp only [Act.put, List.setIfInBounds_toArray, List.set_cons_zero, List.set_cons_succ]
  refine wpAnyI_take (S0 := fun W' => W'.cell? ⟨W.heap.size, 0, none⟩ = some (.int .u8 (c.toNat : Int)) ∧ W'.cell? ⟨W.heap.size, 1, none⟩ = some (.int .i64 (n : Int)) ∧ W'.cell? ⟨P, 3, none⟩ = some (.slice iao st.items.length ic)) (i := 4) (v := ?_) rfl (by kernel_rfl) (by kernel_rfl) (by kernel_rfl) (by kernel_rfl) [4, 6, 8, 10, 15, 13, 18, 19, 20] (by kernel_rfl) (fun _ _ _ h => h) (fun _ h _ => h) (fun j hj _ h => h (by simpa using hj)) (some 158) rfl (Or.inl ⟨by rfl, ?_⟩) ⟨c0, c1, p3⟩ ?_
  rotate_left
  · rintro w' ⟨s0, s1, s2⟩; go_simp <;> with_reducible rfl
  try simp only [Act.put, List.setIfInBounds_toArray, List.set_cons_zero, List.set_cons_succ]
  refine wpAnyI_take (S0 := fun W' => W'.cell? ⟨W.heap.size, 0, none⟩ = some (.int .u8 (c.toNat : Int)) ∧ W'.cell? ⟨W.heap.size, 1, none⟩ = some (.int .i64 (n : Int)) ∧ W'.cell? ⟨P, 3, none⟩ = some (.slice iao st.items.length ic)) (i := 6) (v := ?_) rfl (by kernel_rfl) (by kernel_rfl) (by kernel_rfl) (by kernel_rfl) [4, 6, 8, 10, 15, 13, 18, 19, 20] (by kernel_rfl) (fun _ _ _ h => h) (fun _ h _ => h) (fun j hj _ h => h (by simpa using hj)) (some 160) rfl (Or.inl ⟨by rfl, ?_⟩) ⟨c0, c1, p3⟩ ?_
  rotate_left
  · rintro w' ⟨s0, s1, s2⟩; go_simp <;> with_reducible rfl
  try simp only [Act.put, List.setIfInBounds_toArray, List.set_cons_zero, List.set_cons_succ]
  refine wpAnyI_take (S0 := fun W' => W'.cell? ⟨W.heap.size, 0, none⟩ = some (.int .u8 (c.toNat : Int)) ∧ W'.cell? ⟨W.heap.size, 1, none⟩ = some (.int .i64 (n : Int)) ∧ W'.cell? ⟨P, 3, none⟩ = some (.slice iao st.items.length ic)) (i := 8) (v := ?_) rfl (by kernel_rfl) (by kernel_rfl) (by kernel_rfl) (by kernel_rfl) [4, 6, 8, 10, 15, 13, 18, 19, 20] (by kernel_rfl) (fun _ _ _ h => h) (fun _ h _ => h) (fun j hj _ h => h (by simpa using hj)) (some 162) rfl (Or.inl ⟨by rfl, ?_⟩) ⟨c0, c1, p3⟩ ?_
  rotate_left
  · rintro w' ⟨s0, s1, s2⟩; go_simp <;> with_reducible rfl
  try simp only [Act.put, List.setIfInBounds_toArray, List.set_cons_zero, List.set_cons_succ]
  refine wpAnyI_take (S0 := fun W' => W'.cell? ⟨W.heap.size, 0, none⟩ = some (.int .u8 (c.toNat : Int)) ∧ W'.cell? ⟨W.heap.size, 1, none⟩ = some (.int .i64 (n : Int)) ∧ W'.cell? ⟨P, 3, none⟩ = some (.slice iao st.items.length ic)) (i := 10) (v := ?_) rfl (by kernel_rfl) (by kernel_rfl) (by kernel_rfl) (by kernel_rfl) [4, 6, 8, 10, 15, 13, 18, 19, 20] (by kernel_rfl) (fun _ _ _ h => h) (fun _ h _ => h) (fun j hj _ h => h (by simpa using hj)) (some 164) rfl (Or.inl ⟨by rfl, ?_⟩) ⟨c0, c1, p3⟩ ?_
  rotate_left
  · rintro w' ⟨s0, s1, s2⟩; go_simp <;> with_reducible rfl
  try simp only [Act.put, List.setIfInBounds_toArray, List.set_cons_zero, List.set_cons_succ]
  refine wpAnyI_take (S0 := fun W' => W'.cell? ⟨W.heap.size, 0, none⟩ = some (.int .u8 (c.toNat : Int)) ∧ W'.cell? ⟨W.heap.size, 1, none⟩ = some (.int .i64 (n : Int)) ∧ W'.cell? ⟨P, 3, none⟩ = some (.slice iao st.items.length ic)) (i := 15) (v := ?_) rfl (by kernel_rfl) (by kernel_rfl) (by kernel_rfl) (by kernel_rfl) [4, 6, 8, 10, 15, 13, 18, 19, 20] (by kernel_rfl) (fun _ _ _ h => h) (fun _ h _ => h) (fun j hj _ h => h (by simpa using hj)) (some 169) rfl (Or.inl ⟨by rfl, ?_⟩) ⟨c0, c1, p3⟩ ?_
  rotate_left
  · rintro w' ⟨s0, s1, s2⟩; go_simp <;> with_reducible rfl
  try simp only [Act.put, List.setIfInBounds_toArray, List.set_cons_zero, List.set_cons_succ]
  refine wpAnyI_one (i := 13) (by kernel_rfl) rfl (fun K' hK => ?_)
  have HKK := Lib.hid hK
  clear hK
  go_simp
  refine (HOP.out _).mono ?_
  rintro e w3 ⟨rfl, b3⟩
  have hk3 := (b3.block _ hkl).trans HK2.out
  have d0 := heap_cell c0 (hk3.trans HK2.out.symm)
  have d1 := heap_cell c1 (hk3.trans HK2.out.symm)
  have hB3 := below_step HB2d.out.1 b3
  have hV3 := HB2d.out.2.below b3
  have hkl3 := Nat.lt_of_lt_of_le hkl b3.size
  have p3a : w3.cell? ⟨P, 3, none⟩ = some (.slice iao st.items.length ic) := (ParAt.cells hV3.par).2.2.2.1
  have HV3 := Lib.hid (And.intro hB3 hV3)
  clear hV3 hB3
  go_wp2_with fail
  refine HKK.out _ _ ⟨fun _ => ⟨d0, d1, p3a⟩, ?_⟩
  clear HKK K'
  try simp only [Act.put, List.setIfInBounds_toArray, List.set_cons_zero, List.set_cons_succ]
  refine wpAnyI_one (i := 18) (by kernel_rfl) rfl (fun K' hK => ?_)
  have HKK := Lib.hid hK
  clear hK
  go_simp
  refine (HCL.out _).mono ?_
  rintro e w4 ⟨rfl, b4⟩
  have hk4 := (b4.block _ hkl3).trans hk3
  have e0 := heap_cell d0 (hk4.trans hk3.symm)
  have e1 := heap_cell d1 (hk4.trans hk3.symm)
  have hB4 := below_step HV3.out.1 b4
  have hV4 := HV3.out.2.below b4
  have hkl4 := Nat.lt_of_lt_of_le hkl3 b4.size
  have p3b : w4.cell? ⟨P, 3, none⟩ = some (.slice iao st.items.length ic) := (ParAt.cells hV4.par).2.2.2.1
  have b4a := (Below.refl w4.heap.size w4).alloc (Nat.le_refl _) (.cells #[.int .u8 (c.toNat : Int), .int .i64 (n : Int), .bool op, .bool cl, .slice none 0 0] 95)
  have hk4a := (b4a.block _ hkl4).trans hk4
  have f0 := heap_cell e0 (hk4a.trans hk4.symm)
  have f1 := heap_cell e1 (hk4a.trans hk4.symm)
  have hV4a := hV4.below b4a
  have p3c : (w4.alloc (.cells #[.int .u8 (c.toNat : Int), .int .i64 (n : Int), .bool op, .bool cl, .slice none 0 0] 95)).cell? ⟨P, 3, none⟩ = some (.slice iao st.items.length ic) := (ParAt.cells hV4a.par).2.2.2.1
  have hown4 := hV4a.it.1
  rw [hV4a.len] at hown4
  have hbase4 : B0 ≤ (w4.alloc (.cells #[.int .u8 (c.toNat : Int), .int .i64 (n : Int), .bool op, .bool cl, .slice none 0 0] 95)).heap.size := st_size hP0 hV4a.st
  have hnews4 := cells_new w4 [.int .u8 (c.toNat : Int), .int .i64 (n : Int), .bool op, .bool cl, .slice none 0 0] 95 w4.heap.size rfl
  have HV4 := Lib.hid (And.intro hB4 (And.intro hV4 (And.intro hown4 (And.intro hbase4 (And.intro hnews4 (And.intro hk4a (And.intro hk4 (Nat.lt_of_lt_of_le hkl4 b4a.size))))))))
  clear hB4 hV4 hV4a hown4 hbase4 hnews4
  go_wp2_with fail
  refine HKK.out _ _ ⟨fun _ => ⟨e0, e1, p3b⟩, ?_⟩
  clear HKK K'
  try simp only [Act.put, List.setIfInBounds_toArray, List.set_cons_zero, List.set_cons_succ]
  refine wpAnyI_take (S0 := fun W' => W'.cell? ⟨W.heap.size, 0, none⟩ = some (.int .u8 (c.toNat : Int)) ∧ W'.cell? ⟨W.heap.size, 1, none⟩ = some (.int .i64 (n : Int)) ∧ W'.cell? ⟨P, 3, none⟩ = some (.slice iao st.items.length ic)) (i := 19) (v := ?_) rfl (by kernel_rfl) (by kernel_rfl) (by kernel_rfl) (by kernel_rfl) [4, 6, 8, 10, 15, 13, 18, 19, 20] (by kernel_rfl) (fun _ _ _ h => h) (fun _ h _ => h) (fun j hj _ h => h (by simpa using hj)) (some 173) rfl (Or.inl ⟨by rfl, ?_⟩) ⟨e0, e1, p3b⟩ ?_
  rotate_left
  · rintro w' ⟨s0, s1, s2⟩; go_simp <;> with_reducible rfl
  try simp only [Act.put, List.setIfInBounds_toArray, List.set_cons_zero, List.set_cons_succ]
  refine wpAnyI_one (i := 20) (by kernel_rfl) rfl (fun K' hK => ?_)
  have HKK := Lib.hid hK
  clear hK
  go_simp
  refine HKK.out _ _ ⟨fun _ => ⟨f0, f1, p3c⟩, ?_⟩
  clear HKK K'
  try simp only [Act.put, List.setIfInBounds_toArray, List.set_cons_zero, List.set_cons_succ]
  refine wpAnyI_one (i := 21) (by kernel_rfl) rfl (fun K' hK => ?_)
  have HKK := Lib.hid hK
  clear hK
  refine step_append_lies _ rfl (.tmp 158) (.tmp 174) 54 rfl B0 95 i0 (.agg #[.int .u8 0, .int .i64 0, .bool false, .bool false, .slice none 0 0]) 5 48 Tryz.underlying54 hi hz0 hz1 hz2 rfl (by decide) (.slice iao st.items.length ic) st.items.length (its.flatMap itemCells) rfl HV4.out.2.2.1 ⟨w4.heap.size, 0, none⟩ 1 1 [.int .u8 (c.toNat : Int), .int .i64 (n : Int), .bool op, .bool cl, .slice none 0 0] rfl rfl HV4.out.2.2.2.2.1 HON.out (by decide) h63 hby HV4.out.2.2.2.1 _ rfl ?_
  intro g cap w5 hown5 hgrow5 hat5 hlt5
  obtain ⟨hP5, hS5, hB5, hK5⟩ := st_item HV4.out.2.1 hP0 c n op cl (.slice (some ⟨g, 0, none⟩) (st.items.length + 1) cap) hown5 hgrow5
  have p5 : w5.cell? ⟨P, 3, none⟩ = some (.slice iao st.items.length ic) := (ParAt.cells hP5).2.2.2.1
  have f5 := ParAt.frozen hP5 3
  have hk5 := hgrow5.block _ HV4.out.2.2.2.2.2.2.2 (own_other HV4.out.2.2.1 HV4.out.2.2.2.2.2.1 (by decide))
  have g0 := heap_cell f0 hk5
  have g1 := heap_cell f1 hk5
  have hk6 := hK5 _ _ _ HV4.out.2.2.2.2.2.2.1 (by decide) hkP
  have k0 := heap_cell e0 hk6
  have k1 := heap_cell e1 hk6
  have hBf := (HV4.out.1.mono hs0).trans hB5
  refine HKK.out _ _ ⟨fun h => absurd h (by decide), ?_⟩
  clear HKK K'
  try simp only [Act.put, List.setIfInBounds_toArray, List.set_cons_zero, List.set_cons_succ]
  refine wpAnyI_take (S0 := fun _ => True) (i := 22) (v := ?_) rfl (by kernel_rfl) (by kernel_rfl) (by kernel_rfl) (by kernel_rfl) (List.range 25) (by kernel_rfl) (fun _ _ _ h => h) (fun _ _ h => absurd h (by decide)) (fun _ _ _ _ => trivial) (some 176) rfl (Or.inl ⟨by rfl, ?_⟩) trivial ?_
  rotate_left
  · intro w' _; go_simp <;> with_reducible rfl
  try simp only [Act.put, List.setIfInBounds_toArray, List.set_cons_zero, List.set_cons_succ]
  refine wpAnyI_take (S0 := fun _ => True) (i := 23) (v := ?_) rfl (by kernel_rfl) (by kernel_rfl) (by kernel_rfl) (by kernel_rfl) (List.range 25) (by kernel_rfl) (fun _ _ _ h => h) (fun _ _ h => absurd h (by decide)) (fun _ _ _ _ => trivial) (some 177) rfl (Or.inl ⟨by rfl, ?_⟩) trivial ?_
  rotate_left
  · intro w' _; go_simp <;> with_reducible rfl
  try simp only [Act.put, List.setIfInBounds_toArray, List.set_cons_zero, List.set_cons_succ]
  refine wpAnyI_one (i := 24) (by kernel_rfl) rfl (fun K' hK => ?_)
  have HKK := Lib.hid hK
  clear hK
  go_simp
  refine HKK.out _ _ ⟨fun h => absurd h (by decide), ?_⟩
  clear HKK K'
  try simp only [Act.put, List.setIfInBounds_toArray, List.set_cons_zero, List.set_cons_succ]
  refine wpAnyI_done (by kernel_rfl) ?_ _
  go_wp2_with fail
  go_ret
  exact ⟨rfl, hS5, hBf⟩

end Go.Proofs.YtahljcbmckldhaaGreatDoor

/-
  inline.parser.token: a bracket that opens.
-/
namespace Go.Proofs.YtahljcbmckldhaaGreatDoor
open Go.RowKit
set_option maxRecDepth 100000
set_option linter.unusedVariables false
set_option linter.unusedSimpArgs false

set_option maxHeartbeats 8000000 in
theorem tk_bra (B0 P : Nat) (s : ByteArray) (av tv : Value) (st : PSt) (i next : Nat) (w : World) (hP0 : B0 ≤ P) (h : StAt w B0 P s av tv st) (hn : st.items.length ≤ 1000000000) (hn2 : st.opens.length ≤ 1000000000) :
    Calls Tryz.prog 19 #[.pointer (some ⟨P, 0, none⟩), (Tok.mark [91]).val, .int .i64 i, .int .i64 next] w fun e w' => e = .returned (.int .i64 next) ∧ StAt w' B0 P s av tv (PSt.put { st with opens := st.opens ++ [⟨st.items.length, next, false, false⟩] } [wordsI [91]]) ∧ Below B0 w w' := by
  obtain ⟨i0, hi, hz0, hz1, hz2⟩ := info_parts infoOpn
  have hs0 := st_size hP0 h
  obtain ⟨iao, ic, oao, oc, its, hV⟩ := h.vals
  have hb1 : Below w.heap.size w (w.alloc (.cells #[.string ⟨#[]⟩, .string ⟨#[]⟩] 79)) := (Below.refl _ w).alloc (Nat.le_refl _) _
  have hb2 := hb1.alloc hb1.size (.cells #[.bool false] 83)
  have hb3 := hb2.alloc hb2.size (.cells #[.int .i64 0] 86)
  have HX := Lib.hid (And.intro hb3 hV)
  have q1 := tb_Mark_Word
  have q2 := tb_Mark_Code
  have q3 := tb_Mark_Tag
  have q4 := tb_Mark_Auto
  have q5 := tb_Mark_Break
  have q6 := tb_Mark_Atom
  have q7 := tb_Mark_Run
  have q8 := tb_Mark_Mark
  clear h hV hb1 hb2 hb3
  show Calls Tryz.prog _ #[_, .iface 97 (.agg #[.string ⟨#[91]⟩]), _, _] w _
  go_enter Tryz.func19, Tryz.ntmps19
  go_wp2_with fail
  go_quiet (fail)
  obtain ⟨hb3, hV⟩ := HX.out
  have hb4 := below_drewsN hb3 nq
  obtain ⟨W0, hW0⟩ : ∃ W, (((w.alloc (.cells #[.string ⟨#[]⟩, .string ⟨#[]⟩] 79)).alloc (.cells #[.bool false] 83)).alloc (.cells #[.int .i64 0] 86)).drewN nq = W := ⟨_, rfl⟩
  rw [hW0] at hb4 ⊢
  have hb4b := hb4.alloc hb4.size (.cells #[.int .u8 0, .int .i64 0] 89)
  obtain ⟨W, hW⟩ : ∃ W, W0.alloc (.cells #[.int .u8 0, .int .i64 0] 89) = W := ⟨_, rfl⟩
  have HWW := Lib.hid hW
  rw [hW] at hb4b
  have hb5 := hb4b.alloc hb4b.size (.cells #[.string ⟨#[91]⟩] 97)
  have hk1 : (W.alloc (.cells #[.string ⟨#[91]⟩] 97)).heap[W.heap.size]? = some (.cells #[.string ⟨#[91]⟩] 97 (0, 0)) := heap_alloc_new W _
  have hPk : P < W.heap.size := by have := hb4b.size; have := par_lt hV.par; omega
  obtain ⟨w2, hw2⟩ : ∃ W', W.alloc (.cells #[.string ⟨#[91]⟩] 97) = W' := ⟨_, rfl⟩
  rw [hw2] at hb5 hk1
  have HW2 := Lib.hid (show (W0.alloc (.cells #[.int .u8 0, .int .i64 0] 89)).alloc (.cells #[.string ⟨#[91]⟩] 97) = w2 by rw [hW, hw2])
  have HSZ := Lib.hid (show (W0.alloc (.cells #[.int .u8 0, .int .i64 0] 89)).heap.size = W.heap.size by rw [hW])
  clear hW0 hb3 hV hb4 hb4b hW hw2
  go_wp2_with fail
  rw [HW2.out]
  have hsz1 : W0.heap.size + 1 = W.heap.size := by have := HSZ.out; simpa using this
  try rw [hsz1]
  have hB2d := hb5.drew
  have hV2 := HX.out.2.below hB2d
  have hkl : W.heap.size < w2.heap.size := (Array.getElem?_eq_some_iff.1 hk1).1
  obtain ⟨_, _, _, p3, p4⟩ := ParAt.cells hV2.par
  replace p3 : w2.cell? ⟨P, 3, none⟩ = some (.slice iao st.items.length ic) := p3
  replace p4 : w2.cell? ⟨P, 4, none⟩ = some (.slice oao st.opens.length oc) := p4
  have c0 : w2.cell? ⟨W.heap.size, 0, none⟩ = some (.string ⟨#[91]⟩) := by rw [cell_of_row w2 W.heap.size 0 _ _ _ hk1]; rfl
  have hkP : W.heap.size ≠ P := by omega
  have hone : ∀ u ∈ [Value.int .i64 (st.items.length : Int), .int .i64 (next : Int), .bool false, .bool false], u.oneCell' = true := by
    intro u hu; simp at hu; rcases hu with rfl | rfl | rfl | rfl <;> rfl
  have h63 : st.opens.length + 1 ≤ maxLen := by unfold maxLen; omega
  have hby : (st.opens.length + 1) * 24 ≤ 140737488355328 := by omega
  have b4a := (Below.refl w2.heap.size w2).alloc (Nat.le_refl _) (.cells #[.int .i64 (st.items.length : Int), .int .i64 (next : Int), .bool false, .bool false] 101)
  have hk4a := (b4a.block _ hkl).trans hk1
  have e0 := heap_cell c0 (hk4a.trans hk1.symm)
  have hV4a := hV2.below (show Below w2.drew.heap.size w2.drew (w2.alloc (.cells #[.int .i64 (st.items.length : Int), .int .i64 (next : Int), .bool false, .bool false] 101)).drew from ((Below.refl w2.heap.size w2.drew).alloc (Nat.le_refl _) _))
  have p3a : (w2.alloc (.cells #[.int .i64 (st.items.length : Int), .int .i64 (next : Int), .bool false, .bool false] 101)).cell? ⟨P, 3, none⟩ = some (.slice iao st.items.length ic) := (ParAt.cells hV4a.par).2.2.2.1
  have p4a : (w2.alloc (.cells #[.int .i64 (st.items.length : Int), .int .i64 (next : Int), .bool false, .bool false] 101)).cell? ⟨P, 4, none⟩ = some (.slice oao st.opens.length oc) := (ParAt.cells hV4a.par).2.2.2.2
  have hbase4 : B0 ≤ (w2.alloc (.cells #[.int .i64 (st.items.length : Int), .int .i64 (next : Int), .bool false, .bool false] 101)).heap.size := st_size hP0 hV4a.st
  have hnews4 := cells_new w2 [.int .i64 (st.items.length : Int), .int .i64 (next : Int), .bool false, .bool false] 101 w2.heap.size rfl
  have HV4 := Lib.hid (And.intro hB2d (And.intro hV2 (And.intro hV4a.op (And.intro hbase4 (And.intro hnews4 (And.intro hk4a (And.intro hk1 (And.intro (Nat.lt_of_lt_of_le hkl b4a.size) hone))))))))
  clear hb5 hB2d hV2 hV4a hbase4 hnews4 hone b4a hsz1 HSZ HW2 HWW
  go_region_law
    ((refine step_append_lies _ rfl (.tmp 200) (.tmp 211) 55 rfl B0 101 i0 (.agg #[.int .i64 0, .int .i64 0, .bool false, .bool false]) 4 24 Tryz.underlying55 hi hz0 hz1 hz2 rfl (by decide) (.slice oao st.opens.length oc) st.opens.length (st.opens.flatMap opnCells) rfl HV4.out.2.2.1 ⟨w2.heap.size, 0, none⟩ 1 1 [.int .i64 (st.items.length : Int), .int .i64 (next : Int), .bool false, .bool false] rfl rfl HV4.out.2.2.2.2.1 HV4.out.2.2.2.2.2.2.2.2 (by decide) h63 hby HV4.out.2.2.2.1 _ rfl ?_
      intro g cap w5 hown5 hgrow5 hat5 hlt5
      obtain ⟨hP5, hS5, hB5, hK5⟩ := st_opener (w := w2.drew) HV4.out.2.1 hP0 st.items.length next false (.slice (some ⟨g, 0, none⟩) (st.opens.length + 1) cap) hown5 hgrow5
      have p5 : w5.cell? ⟨P, 3, none⟩ = some (.slice iao st.items.length ic) := (ParAt.cells hP5).2.2.2.1
      have p6 : w5.cell? ⟨P, 4, none⟩ = some (.slice oao st.opens.length oc) := (ParAt.cells hP5).2.2.2.2
      have f5 := ParAt.frozen hP5 4
      have hk5 := hgrow5.block _ HV4.out.2.2.2.2.2.2.2.1 (own_other HV4.out.2.2.1 HV4.out.2.2.2.2.2.1 (by decide))
      have g0 := heap_cell e0 hk5
      have hk6 := hK5 _ _ _ HV4.out.2.2.2.2.2.2.1 (by decide) hkP
      have k0 := heap_cell c0 hk6
      have k3 : (w5.setCell ⟨P, 4, none⟩ (.slice (some ⟨g, 0, none⟩) (st.opens.length + 1) cap)).cell? ⟨P, 3, none⟩ = some (.slice iao st.items.length ic) := (ParAt.cells (par_set4 hP5 _)).2.2.2.1
      have hBf := (HV4.out.1.mono hs0).trans hB5))
  all_goals
    obtain ⟨W6, hW6⟩ : ∃ W', w5.setCell ⟨P, 4, none⟩ (.slice (some ⟨g, 0, none⟩) (st.opens.length + 1) cap) = W' := ⟨_, rfl⟩
    rw [hW6] at hS5 hBf k0 ⊢
    have HS5 := Lib.hid (And.intro hS5 hBf)
    clear hW6 c0 e0 g0 p3 p4 p3a p4a p5 p6 f5 k3 hown5 hgrow5 hP5 hB5 hK5 hk5 hk6 hS5 hBf hk4a hk1
    go_wp2_with fail
    refine (words_ag ⟨#[91]⟩ _).mono ?_
    rintro e wa ⟨rfl, ba⟩
    clear k0
    go_wp2_with fail
    refine (put_lit B0 P s av tv _ 1 _ rfl ⟨#[91]⟩ _ hP0 (HS5.out.1.below ba) hn _ (by first | rfl | simp)).mono ?_
    rintro e wb ⟨rfl, sb, bb⟩
    go_wp2_with fail
    go_ret
    exact ⟨rfl, sb, (HS5.out.2.trans (ba.mono (st_size hP0 HS5.out.1))).trans bb⟩
set_option maxHeartbeats 8000000 in
theorem tk_img (B0 P : Nat) (s : ByteArray) (av tv : Value) (st : PSt) (i next : Nat) (w : World) (hP0 : B0 ≤ P) (h : StAt w B0 P s av tv st) (hn : st.items.length ≤ 1000000000) (hn2 : st.opens.length ≤ 1000000000) :
    Calls Tryz.prog 19 #[.pointer (some ⟨P, 0, none⟩), (Tok.mark [33, 91]).val, .int .i64 i, .int .i64 next] w fun e w' => e = .returned (.int .i64 next) ∧ StAt w' B0 P s av tv (PSt.put { st with opens := st.opens ++ [⟨st.items.length, next, true, false⟩] } [wordsI [33, 91]]) ∧ Below B0 w w' := by
  obtain ⟨i0, hi, hz0, hz1, hz2⟩ := info_parts infoOpn
  have hs0 := st_size hP0 h
  obtain ⟨iao, ic, oao, oc, its, hV⟩ := h.vals
  have hb1 : Below w.heap.size w (w.alloc (.cells #[.string ⟨#[]⟩, .string ⟨#[]⟩] 79)) := (Below.refl _ w).alloc (Nat.le_refl _) _
  have hb2 := hb1.alloc hb1.size (.cells #[.bool false] 83)
  have hb3 := hb2.alloc hb2.size (.cells #[.int .i64 0] 86)
  have HX := Lib.hid (And.intro hb3 hV)
  have q1 := tb_Mark_Word
  have q2 := tb_Mark_Code
  have q3 := tb_Mark_Tag
  have q4 := tb_Mark_Auto
  have q5 := tb_Mark_Break
  have q6 := tb_Mark_Atom
  have q7 := tb_Mark_Run
  have q8 := tb_Mark_Mark
  clear h hV hb1 hb2 hb3
  show Calls Tryz.prog _ #[_, .iface 97 (.agg #[.string ⟨#[33, 91]⟩]), _, _] w _
  go_enter Tryz.func19, Tryz.ntmps19
  go_wp2_with fail
  go_quiet (fail)
  obtain ⟨hb3, hV⟩ := HX.out
  have hb4 := below_drewsN hb3 nq
  obtain ⟨W0, hW0⟩ : ∃ W, (((w.alloc (.cells #[.string ⟨#[]⟩, .string ⟨#[]⟩] 79)).alloc (.cells #[.bool false] 83)).alloc (.cells #[.int .i64 0] 86)).drewN nq = W := ⟨_, rfl⟩
  rw [hW0] at hb4 ⊢
  have hb4b := hb4.alloc hb4.size (.cells #[.int .u8 0, .int .i64 0] 89)
  obtain ⟨W, hW⟩ : ∃ W, W0.alloc (.cells #[.int .u8 0, .int .i64 0] 89) = W := ⟨_, rfl⟩
  have HWW := Lib.hid hW
  rw [hW] at hb4b
  have hb5 := hb4b.alloc hb4b.size (.cells #[.string ⟨#[33, 91]⟩] 97)
  have hk1 : (W.alloc (.cells #[.string ⟨#[33, 91]⟩] 97)).heap[W.heap.size]? = some (.cells #[.string ⟨#[33, 91]⟩] 97 (0, 0)) := heap_alloc_new W _
  have hPk : P < W.heap.size := by have := hb4b.size; have := par_lt hV.par; omega
  obtain ⟨w2, hw2⟩ : ∃ W', W.alloc (.cells #[.string ⟨#[33, 91]⟩] 97) = W' := ⟨_, rfl⟩
  rw [hw2] at hb5 hk1
  have HW2 := Lib.hid (show (W0.alloc (.cells #[.int .u8 0, .int .i64 0] 89)).alloc (.cells #[.string ⟨#[33, 91]⟩] 97) = w2 by rw [hW, hw2])
  have HSZ := Lib.hid (show (W0.alloc (.cells #[.int .u8 0, .int .i64 0] 89)).heap.size = W.heap.size by rw [hW])
  clear hW0 hb3 hV hb4 hb4b hW hw2
  go_wp2_with fail
  rw [HW2.out]
  have hsz1 : W0.heap.size + 1 = W.heap.size := by have := HSZ.out; simpa using this
  try rw [hsz1]
  have hB2d := hb5.drew
  have hV2 := HX.out.2.below hB2d
  have hkl : W.heap.size < w2.heap.size := (Array.getElem?_eq_some_iff.1 hk1).1
  obtain ⟨_, _, _, p3, p4⟩ := ParAt.cells hV2.par
  replace p3 : w2.cell? ⟨P, 3, none⟩ = some (.slice iao st.items.length ic) := p3
  replace p4 : w2.cell? ⟨P, 4, none⟩ = some (.slice oao st.opens.length oc) := p4
  have c0 : w2.cell? ⟨W.heap.size, 0, none⟩ = some (.string ⟨#[33, 91]⟩) := by rw [cell_of_row w2 W.heap.size 0 _ _ _ hk1]; rfl
  have hkP : W.heap.size ≠ P := by omega
  have hone : ∀ u ∈ [Value.int .i64 (st.items.length : Int), .int .i64 (next : Int), .bool true, .bool false], u.oneCell' = true := by
    intro u hu; simp at hu; rcases hu with rfl | rfl | rfl | rfl <;> rfl
  have h63 : st.opens.length + 1 ≤ maxLen := by unfold maxLen; omega
  have hby : (st.opens.length + 1) * 24 ≤ 140737488355328 := by omega
  have b4a := (Below.refl w2.heap.size w2).alloc (Nat.le_refl _) (.cells #[.int .i64 (st.items.length : Int), .int .i64 (next : Int), .bool true, .bool false] 101)
  have hk4a := (b4a.block _ hkl).trans hk1
  have e0 := heap_cell c0 (hk4a.trans hk1.symm)
  have hV4a := hV2.below (show Below w2.drew.heap.size w2.drew (w2.alloc (.cells #[.int .i64 (st.items.length : Int), .int .i64 (next : Int), .bool true, .bool false] 101)).drew from ((Below.refl w2.heap.size w2.drew).alloc (Nat.le_refl _) _))
  have p3a : (w2.alloc (.cells #[.int .i64 (st.items.length : Int), .int .i64 (next : Int), .bool true, .bool false] 101)).cell? ⟨P, 3, none⟩ = some (.slice iao st.items.length ic) := (ParAt.cells hV4a.par).2.2.2.1
  have p4a : (w2.alloc (.cells #[.int .i64 (st.items.length : Int), .int .i64 (next : Int), .bool true, .bool false] 101)).cell? ⟨P, 4, none⟩ = some (.slice oao st.opens.length oc) := (ParAt.cells hV4a.par).2.2.2.2
  have hbase4 : B0 ≤ (w2.alloc (.cells #[.int .i64 (st.items.length : Int), .int .i64 (next : Int), .bool true, .bool false] 101)).heap.size := st_size hP0 hV4a.st
  have hnews4 := cells_new w2 [.int .i64 (st.items.length : Int), .int .i64 (next : Int), .bool true, .bool false] 101 w2.heap.size rfl
  have HV4 := Lib.hid (And.intro hB2d (And.intro hV2 (And.intro hV4a.op (And.intro hbase4 (And.intro hnews4 (And.intro hk4a (And.intro hk1 (And.intro (Nat.lt_of_lt_of_le hkl b4a.size) hone))))))))
  clear hb5 hB2d hV2 hV4a hbase4 hnews4 hone b4a hsz1 HSZ HW2 HWW
  go_region_law
    ((refine step_append_lies _ rfl (.tmp 200) (.tmp 211) 55 rfl B0 101 i0 (.agg #[.int .i64 0, .int .i64 0, .bool false, .bool false]) 4 24 Tryz.underlying55 hi hz0 hz1 hz2 rfl (by decide) (.slice oao st.opens.length oc) st.opens.length (st.opens.flatMap opnCells) rfl HV4.out.2.2.1 ⟨w2.heap.size, 0, none⟩ 1 1 [.int .i64 (st.items.length : Int), .int .i64 (next : Int), .bool true, .bool false] rfl rfl HV4.out.2.2.2.2.1 HV4.out.2.2.2.2.2.2.2.2 (by decide) h63 hby HV4.out.2.2.2.1 _ rfl ?_
      intro g cap w5 hown5 hgrow5 hat5 hlt5
      obtain ⟨hP5, hS5, hB5, hK5⟩ := st_opener (w := w2.drew) HV4.out.2.1 hP0 st.items.length next true (.slice (some ⟨g, 0, none⟩) (st.opens.length + 1) cap) hown5 hgrow5
      have p5 : w5.cell? ⟨P, 3, none⟩ = some (.slice iao st.items.length ic) := (ParAt.cells hP5).2.2.2.1
      have p6 : w5.cell? ⟨P, 4, none⟩ = some (.slice oao st.opens.length oc) := (ParAt.cells hP5).2.2.2.2
      have f5 := ParAt.frozen hP5 4
      have hk5 := hgrow5.block _ HV4.out.2.2.2.2.2.2.2.1 (own_other HV4.out.2.2.1 HV4.out.2.2.2.2.2.1 (by decide))
      have g0 := heap_cell e0 hk5
      have hk6 := hK5 _ _ _ HV4.out.2.2.2.2.2.2.1 (by decide) hkP
      have k0 := heap_cell c0 hk6
      have k3 : (w5.setCell ⟨P, 4, none⟩ (.slice (some ⟨g, 0, none⟩) (st.opens.length + 1) cap)).cell? ⟨P, 3, none⟩ = some (.slice iao st.items.length ic) := (ParAt.cells (par_set4 hP5 _)).2.2.2.1
      have hBf := (HV4.out.1.mono hs0).trans hB5))
  all_goals
    obtain ⟨W6, hW6⟩ : ∃ W', w5.setCell ⟨P, 4, none⟩ (.slice (some ⟨g, 0, none⟩) (st.opens.length + 1) cap) = W' := ⟨_, rfl⟩
    rw [hW6] at hS5 hBf k0 ⊢
    have HS5 := Lib.hid (And.intro hS5 hBf)
    clear hW6 c0 e0 g0 p3 p4 p3a p4a p5 p6 f5 k3 hown5 hgrow5 hP5 hB5 hK5 hk5 hk6 hS5 hBf hk4a hk1
    go_wp2_with fail
    refine (words_ag ⟨#[33, 91]⟩ _).mono ?_
    rintro e wa ⟨rfl, ba⟩
    clear k0
    go_wp2_with fail
    refine (put_lit B0 P s av tv _ 1 _ rfl ⟨#[33, 91]⟩ _ hP0 (HS5.out.1.below ba) hn _ (by first | rfl | simp)).mono ?_
    rintro e wb ⟨rfl, sb, bb⟩
    go_wp2_with fail
    go_ret
    exact ⟨rfl, sb, (HS5.out.2.trans (ba.mono (st_size hP0 HS5.out.1))).trans bb⟩

end Go.Proofs.YtahljcbmckldhaaGreatDoor

/-
  inline.parser.link: the link that a text is by what stands behind it.
-/
namespace Go.Proofs.YtahljcbmckldhaaGreatDoor
open Go.RowKit
set_option maxRecDepth 100000
set_option linter.unusedVariables false
set_option linter.unusedSimpArgs false

theorem cut_ba (c : UInt8) (s A B : ByteArray) (b : Bool) (h : cutAt c s.data.toList = (A.data.toList, B.data.toList, b)) (hs : s.size ≤ 1000000000) (w : World) (hE : Env w) :
    Calls Tryz.prog 64 #[.string s, .string ⟨#[c]⟩] w fun e w' => e = .returned (.tuple #[.string A, .string B, .bool b]) ∧ Below w.heap.size w w' := by
  have := cut_any c s w hE hs
  rw [h] at this
  simp only [Lib.mk_data] at this
  exact this

set_option maxHeartbeats 8000000 in
theorem inlLink_any (P : Nat) (s : ByteArray) (av tv iv ov : Value) (t : Option (List DefL)) (x b : ByteArray) (w : World) (hE : Env w) (hP : ParAt w P s av tv iv ov) (hT : TabAt w tv t) (hl : ∀ ds, t = some ds → ds.length ≤ 1000000000) (hs : x.size ≤ 1000000000) (hb : b.size ≤ 1000000000) :
    Calls Tryz.prog 57 #[.pointer (some ⟨P, 0, none⟩), .string x, .string b] w fun e w' => e = .returned (.tuple #[(inlLinkL t x.data.toList b.data.toList).1.val, .int .i64 (inlLinkL t x.data.toList b.data.toList).2.1, .bool (inlLinkL t x.data.toList b.data.toList).2.2]) ∧ Below w.heap.size w w' := by
  have hb1 : Below w.heap.size w (w.alloc (.cells #[.int .i64 0, .int .i64 0, .string ⟨#[]⟩, .string ⟨#[]⟩, .string ⟨#[]⟩] 28)) := (Below.refl _ w).alloc (Nat.le_refl _) _
  have HE := Lib.hid hE
  have HT := Lib.hid hT
  have HPW := Lib.hid hP
  have HHL := Lib.hid hl
  have hin := inside_any b _ (hE.below hb1) hb
  obtain ⟨r, hr⟩ : ∃ r, inlLinkL t x.data.toList b.data.toList = r := ⟨_, rfl⟩
  rw [hr]
  unfold inlLinkL at hr
  obtain ⟨U, T, n, is, hi⟩ : ∃ U T n is, inside b.data.toList = (U, T, n, is) := ⟨_, _, _, _, rfl⟩
  rw [hi] at hin hr
  simp only at hin hr
  have HIN := Lib.hid hin
  clear hin hi hE hT hP hl
  cases is
  · rw [if_neg (by simp)] at hr
    obtain ⟨C, hC, hCz⟩ := ba_at (preAt 91 b.data.toList).1
    have hCl := preAt_len 91 b.data.toList
    rw [← hCz, ← Lib.size_eq] at hCl
    obtain ⟨q, hq⟩ : ∃ q, (preAt 91 b.data.toList).2 = q := ⟨_, rfl⟩
    have HP1 := Lib.hid (pre_ba 91 b C q (by rw [hC, ← hq]))
    unfold nameBehind at hr
    rw [← hC, hq] at hr
    clear hC hCz hq
    cases q
    · simp only [Bool.false_eq_true, false_and, if_false] at hr
      have HR := Lib.hid hr
      clear hr
      go_enter Tryz.func57, Tryz.ntmps57
      go_wp2_with fail
      refine HIN.out.mono ?_
      rintro e w2 ⟨rfl, b2⟩
      have hB2 := below_step hb1 b2
      go_wp2_with fail
      refine (HP1.out _).mono ?_
      rintro e w' ⟨rfl, hw'⟩
      obtain rfl := hw'.symm
      have hf := find_any tv t x false w2 (HE.out.below hB2) (HT.out.below hB2) HHL.out (by omega)
      obtain ⟨d, is, hd⟩ : ∃ d is, findL t (x).data.toList false = (d, is) := ⟨_, _, rfl⟩
      have HQ := Lib.hid (show r = ((⟨5, 0, [], d.url, d.title⟩ : Inl), 0, is) by rw [← HR.out, hd])
      rw [hd] at hf
      simp only [DefL.val, defV] at hf
      have HF := Lib.hid hf
      clear hf hd
      obtain ⟨p0, p1, p2, p3, p4⟩ := ParAt.cells (HPW.out.below hB2)
      clear p0 p1 p3 p4
      go_wp2_with fail
      refine HF.out.mono ?_
      rintro e wf ⟨rfl, bf⟩
      obtain ⟨c0, c1, c2, c3, c4, f0, f1, f2, f3, f4, hsz⟩ := zero_inl (below_step b2 bf)
      have hBf := below_step hB2 bf
      clear p2
      go_wp2_with fail
      refine bodyPost_ret (v := .tuple #[.agg #[.int .i64 5, .int .i64 0, .string ⟨#[]⟩, .string ⟨d.url.toArray⟩, .string ⟨d.title.toArray⟩], .int .i64 0, .bool is]) (by simp [results, Tryz.results57, go_sem, c0, c1, c2, c3, c4, f0, f1, f2, f3, f4, hsz]) rfl ⟨?_, (below_def hBf).alloc (below_def hBf).size _⟩
      rw [HQ.out]; rfl
    · obtain ⟨N, hN, hNz⟩ := ba_at (cutAt 93 C.data.toList).1
      obtain ⟨R, hR, hRz⟩ := ba_at (cutAt 93 C.data.toList).2.1
      have hNl := (cut_len 93 C.data.toList).1
      rw [← hNz, ← Lib.size_eq] at hNl
      obtain ⟨is2, h2⟩ : ∃ q, (cutAt 93 C.data.toList).2.2 = q := ⟨_, rfl⟩
      have hcut := cut_ba 93 C N R is2 (by rw [hN, hR, ← h2]) (by omega)
      have HCUT := Lib.hid hcut
      rw [h2, ← hN, ← Lib.size_eq] at hr
      clear hcut h2 hN hR hRz hNz
      cases is2
      · simp only [Bool.false_eq_true, false_and, and_false, if_false] at hr
        have HR := Lib.hid hr
        clear hr
        go_enter Tryz.func57, Tryz.ntmps57
        go_wp2_with fail
        refine HIN.out.mono ?_
        rintro e w2 ⟨rfl, b2⟩
        have hB2 := below_step hb1 b2
        go_wp2_with fail
        refine (HP1.out _).mono ?_
        rintro e w' ⟨rfl, hw'⟩
        obtain rfl := hw'.symm
        go_wp2_with fail
        refine (HCUT.out _ (HE.out.below hB2)).mono ?_
        rintro e w3 ⟨rfl, b3⟩
        have hB3 := below_step hB2 b3
        have b23 := below_step b2 b3
        clear hB2 b2 b3
        have hf := find_any tv t x false w3 (HE.out.below hB3) (HT.out.below hB3) HHL.out (by omega)
        obtain ⟨d, is, hd⟩ : ∃ d is, findL t (x).data.toList false = (d, is) := ⟨_, _, rfl⟩
        have HQ := Lib.hid (show r = ((⟨5, 0, [], d.url, d.title⟩ : Inl), 0, is) by rw [← HR.out, hd])
        rw [hd] at hf
        simp only [DefL.val, defV] at hf
        have HF := Lib.hid hf
        clear hf hd
        obtain ⟨p0, p1, p2, p3, p4⟩ := ParAt.cells (HPW.out.below hB3)
        clear p0 p1 p3 p4
        go_wp2_with fail
        refine HF.out.mono ?_
        rintro e wf ⟨rfl, bf⟩
        obtain ⟨c0, c1, c2, c3, c4, f0, f1, f2, f3, f4, hsz⟩ := zero_inl (below_step b23 bf)
        have hBf := below_step hB3 bf
        clear p2
        go_wp2_with fail
        refine bodyPost_ret (v := .tuple #[.agg #[.int .i64 5, .int .i64 0, .string ⟨#[]⟩, .string ⟨d.url.toArray⟩, .string ⟨d.title.toArray⟩], .int .i64 0, .bool is]) (by simp [results, Tryz.results57, go_sem, c0, c1, c2, c3, c4, f0, f1, f2, f3, f4, hsz]) rfl ⟨?_, (below_def hBf).alloc (below_def hBf).size _⟩
        rw [HQ.out]; rfl
      · have hct := fun W => containsTwo_any N W (by omega)
        obtain ⟨q, hq⟩ : ∃ q, N.data.toList.any (fun c => c == 91 || c == 0) = q := ⟨_, rfl⟩
        rw [hq] at hct hr
        have HCT := Lib.hid hct
        clear hct hq
        cases q
        · simp only [true_and, if_true] at hr
          have hfo := fun W hW => fold_any N W hW (by omega)
          obtain ⟨F, hF, hFz⟩ := ba_at (fold N.data.toList)
          rw [← hF] at hfo hr
          simp only [Lib.mk_data] at hfo
          have HFO := Lib.hid hfo
          clear hfo hF hFz
          by_cases hF0 : 0 < F.size
          · have he := empty_no hF0
            have hFne : F.data.toList ≠ [] := by intro h; rw [Lib.size_eq, h] at hF0; exact absurd hF0 (by simp)
            rw [if_pos hFne] at hr
            have HR := Lib.hid hr
            clear hr hFne
            go_enter Tryz.func57, Tryz.ntmps57
            go_wp2_with fail
            refine HIN.out.mono ?_
            rintro e w2 ⟨rfl, b2⟩
            have hB2 := below_step hb1 b2
            go_wp2_with fail
            refine (HP1.out _).mono ?_
            rintro e w' ⟨rfl, hw'⟩
            obtain rfl := hw'.symm
            go_wp2_with fail
            refine (HCUT.out _ (HE.out.below hB2)).mono ?_
            rintro e w3 ⟨rfl, b3⟩
            have hB3 := below_step hB2 b3
            have b23 := below_step b2 b3
            clear hB2 b2 b3
            go_wp2_with fail
            refine (HCT.out _).mono ?_
            rintro e w4 ⟨rfl, b4⟩
            have hB4 := below_step hB3 b4
            have b24 := below_step b23 b4
            clear hB3 b23 b4
            go_wp2_with fail
            refine (HFO.out _ (HE.out.below hB4)).mono ?_
            rintro e w5 ⟨rfl, b5⟩
            have hB5 := below_step hB4 b5
            have b25 := below_step b24 b5
            clear hB4 b24 b5
            have hf := find_any tv t N false w5 (HE.out.below hB5) (HT.out.below hB5) HHL.out (by omega)
            obtain ⟨d, is, hd⟩ : ∃ d is, findL t (N).data.toList false = (d, is) := ⟨_, _, rfl⟩
            have HQ := Lib.hid (show r = ((⟨5, 0, [], d.url, d.title⟩ : Inl), N.size + 2, is) by rw [← HR.out, hd])
            rw [hd] at hf
            simp only [DefL.val, defV] at hf
            have HF := Lib.hid hf
            clear hf hd
            obtain ⟨p0, p1, p2, p3, p4⟩ := ParAt.cells (HPW.out.below hB5)
            clear p0 p1 p3 p4
            go_wp2_with fail
            refine HF.out.mono ?_
            rintro e wf ⟨rfl, bf⟩
            obtain ⟨c0, c1, c2, c3, c4, f0, f1, f2, f3, f4, hsz⟩ := zero_inl (below_step b25 bf)
            have hBf := below_step hB5 bf
            clear p2
            go_wp2_with fail
            refine bodyPost_ret (v := .tuple #[.agg #[.int .i64 5, .int .i64 0, .string ⟨#[]⟩, .string ⟨d.url.toArray⟩, .string ⟨d.title.toArray⟩], .int .i64 ((N.size : Int) + 2), .bool is]) (by simp [results, Tryz.results57, go_sem, c0, c1, c2, c3, c4, f0, f1, f2, f3, f4, hsz]) rfl ⟨?_, (below_def hBf).alloc (below_def hBf).size _⟩
            rw [HQ.out]; rfl
          · have he := empty_yes (s := F) (by omega)
            have hFe : ¬ F.data.toList ≠ [] := fun h => h (List.eq_nil_of_length_eq_zero (by rw [← Lib.size_eq]; omega))
            rw [if_neg hFe] at hr
            have HR := Lib.hid hr
            clear hr hFe
            go_enter Tryz.func57, Tryz.ntmps57
            go_wp2_with fail
            refine HIN.out.mono ?_
            rintro e w2 ⟨rfl, b2⟩
            have hB2 := below_step hb1 b2
            go_wp2_with fail
            refine (HP1.out _).mono ?_
            rintro e w' ⟨rfl, hw'⟩
            obtain rfl := hw'.symm
            go_wp2_with fail
            refine (HCUT.out _ (HE.out.below hB2)).mono ?_
            rintro e w3 ⟨rfl, b3⟩
            have hB3 := below_step hB2 b3
            have b23 := below_step b2 b3
            clear hB2 b2 b3
            go_wp2_with fail
            refine (HCT.out _).mono ?_
            rintro e w4 ⟨rfl, b4⟩
            have hB4 := below_step hB3 b4
            have b24 := below_step b23 b4
            clear hB3 b23 b4
            go_wp2_with fail
            refine (HFO.out _ (HE.out.below hB4)).mono ?_
            rintro e w5 ⟨rfl, b5⟩
            have hB5 := below_step hB4 b5
            have b25 := below_step b24 b5
            clear hB4 b24 b5
            have hf := find_any tv t x false w5 (HE.out.below hB5) (HT.out.below hB5) HHL.out (by omega)
            obtain ⟨d, is, hd⟩ : ∃ d is, findL t (x).data.toList false = (d, is) := ⟨_, _, rfl⟩
            have HQ := Lib.hid (show r = ((⟨5, 0, [], d.url, d.title⟩ : Inl), N.size + 2, is) by rw [← HR.out, hd])
            rw [hd] at hf
            simp only [DefL.val, defV] at hf
            have HF := Lib.hid hf
            clear hf hd
            obtain ⟨p0, p1, p2, p3, p4⟩ := ParAt.cells (HPW.out.below hB5)
            clear p0 p1 p3 p4
            go_wp2_with fail
            refine HF.out.mono ?_
            rintro e wf ⟨rfl, bf⟩
            obtain ⟨c0, c1, c2, c3, c4, f0, f1, f2, f3, f4, hsz⟩ := zero_inl (below_step b25 bf)
            have hBf := below_step hB5 bf
            clear p2
            go_wp2_with fail
            refine bodyPost_ret (v := .tuple #[.agg #[.int .i64 5, .int .i64 0, .string ⟨#[]⟩, .string ⟨d.url.toArray⟩, .string ⟨d.title.toArray⟩], .int .i64 ((N.size : Int) + 2), .bool is]) (by simp [results, Tryz.results57, go_sem, c0, c1, c2, c3, c4, f0, f1, f2, f3, f4, hsz]) rfl ⟨?_, (below_def hBf).alloc (below_def hBf).size _⟩
            rw [HQ.out]; rfl
        · simp only [Bool.true_eq_false, and_false, if_false] at hr
          have HR := Lib.hid hr
          clear hr
          go_enter Tryz.func57, Tryz.ntmps57
          go_wp2_with fail
          refine HIN.out.mono ?_
          rintro e w2 ⟨rfl, b2⟩
          have hB2 := below_step hb1 b2
          go_wp2_with fail
          refine (HP1.out _).mono ?_
          rintro e w' ⟨rfl, hw'⟩
          obtain rfl := hw'.symm
          go_wp2_with fail
          refine (HCUT.out _ (HE.out.below hB2)).mono ?_
          rintro e w3 ⟨rfl, b3⟩
          have hB3 := below_step hB2 b3
          have b23 := below_step b2 b3
          clear hB2 b2 b3
          go_wp2_with fail
          refine (HCT.out _).mono ?_
          rintro e w4 ⟨rfl, b4⟩
          have hB4 := below_step hB3 b4
          have b24 := below_step b23 b4
          clear hB3 b23 b4
          have hf := find_any tv t x false w4 (HE.out.below hB4) (HT.out.below hB4) HHL.out (by omega)
          obtain ⟨d, is, hd⟩ : ∃ d is, findL t (x).data.toList false = (d, is) := ⟨_, _, rfl⟩
          have HQ := Lib.hid (show r = ((⟨5, 0, [], d.url, d.title⟩ : Inl), 0, is) by rw [← HR.out, hd])
          rw [hd] at hf
          simp only [DefL.val, defV] at hf
          have HF := Lib.hid hf
          clear hf hd
          obtain ⟨p0, p1, p2, p3, p4⟩ := ParAt.cells (HPW.out.below hB4)
          clear p0 p1 p3 p4
          go_wp2_with fail
          refine HF.out.mono ?_
          rintro e wf ⟨rfl, bf⟩
          obtain ⟨c0, c1, c2, c3, c4, f0, f1, f2, f3, f4, hsz⟩ := zero_inl (below_step b24 bf)
          have hBf := below_step hB4 bf
          clear p2
          go_wp2_with fail
          refine bodyPost_ret (v := .tuple #[.agg #[.int .i64 5, .int .i64 0, .string ⟨#[]⟩, .string ⟨d.url.toArray⟩, .string ⟨d.title.toArray⟩], .int .i64 0, .bool is]) (by simp [results, Tryz.results57, go_sem, c0, c1, c2, c3, c4, f0, f1, f2, f3, f4, hsz]) rfl ⟨?_, (below_def hBf).alloc (below_def hBf).size _⟩
          rw [HQ.out]; rfl
  · rw [if_pos rfl] at hr
    have HR := Lib.hid hr
    clear hr
    go_enter Tryz.func57, Tryz.ntmps57
    go_wp2_with fail
    refine HIN.out.mono ?_
    rintro e w2 ⟨rfl, b2⟩
    have hB2 := below_step hb1 b2
    obtain ⟨c0, c1, c2, c3, c4, f0, f1, f2, f3, f4, hsz⟩ := zero_inl b2
    go_wp2_with fail
    refine bodyPost_ret (v := .tuple #[.agg #[.int .i64 5, .int .i64 0, .string ⟨#[]⟩, .string ⟨U.toArray⟩, .string ⟨T.toArray⟩], .int .i64 n, .bool true]) (by simp [results, Tryz.results57, go_sem, c0, c1, c2, c3, c4, f0, f1, f2, f3, f4, hsz]) rfl ⟨?_, below_def hB2⟩
    rw [← HR.out]; rfl

end Go.Proofs.YtahljcbmckldhaaGreatDoor

/-
  inline.parser.close: a bracket that closes.
-/
namespace Go.Proofs.YtahljcbmckldhaaGreatDoor
open Go.RowKit
set_option maxRecDepth 100000
set_option linter.unusedVariables false
set_option linter.unusedSimpArgs false


set_option maxHeartbeats 4000000 in
theorem close_empty (B0 P : Nat) (s : ByteArray) (av tv : Value) (items : List IItem) (i next : Nat) (w : World) (hP0 : B0 ≤ P) (h : StAt w B0 P s av tv ⟨items, []⟩) (hn : items.length ≤ 1000000000) :
    Calls Tryz.prog 32 #[.pointer (some ⟨P, 0, none⟩), .int .i64 i, .int .i64 next] w fun e w' => e = .returned (.int .i64 0) ∧ StAt w' B0 P s av tv (PSt.put ⟨items, []⟩ [wordsI [93]]) ∧ Below B0 w w' := by
  obtain ⟨iao, ic, oao, oc, its, hV⟩ := h.vals
  obtain ⟨p0, p1, p2, p3, p4⟩ := ParAt.cells hV.par
  simp only [List.length_nil] at p4
  have HV := Lib.hid hV
  have hB0 := Below.refl B0 w
  clear hV h p0 p1 p2 p3
  go_enter Tryz.func32, Tryz.ntmps32
  go_wp2_with fail
  refine (words_ag ⟨#[93]⟩ _).mono ?_
  rintro e wa ⟨rfl, ba⟩
  have ha := (HV.out).st.below ba
  have hBa := (hB0).trans (ba.mono (st_size hP0 (HV.out).st))
  go_wp2_with fail
  refine (put_lit B0 P s av tv ⟨items, []⟩ 1 1 rfl ⟨#[93]⟩ wa hP0 ha hn _ rfl).mono ?_
  rintro e wb ⟨rfl, sb, bb⟩
  go_wp2_with fail
  go_ret
  exact ⟨rfl, sb, hBa.trans bb⟩

theorem opn_get (os : List Opn) (o : Opn) : (os ++ [o])[os.length]? = some o := by simp


set_option maxHeartbeats 16000000 in
theorem close_pop (B0 P : Nat) (s : ByteArray) (av tv : Value) (t : Option (List DefL)) (ts : List AtomT) (items : List IItem) (os : List Opn) (a f : Nat) (image shut : Bool) (i next : Nat) (w : World)
    (hL : Low B0 w tv av t ts) (hP0 : B0 ≤ P) (h : StAt w B0 P s av tv ⟨items, os ++ [⟨a, f, image, shut⟩]⟩) (hl : ∀ ds, t = some ds → ds.length ≤ 1000000000)
    (hf : f ≤ i) (hi : i ≤ next) (hnx : next ≤ s.size) (hs : s.size ≤ 1000000) (ha : a < items.length) (hn : items.length ≤ 1000000000) (hol : os.length ≤ 1000000000)
    (hG : 2 * itsW items + items.length ≤ 100000000000) (hz : Zero items) (hne : ItemsNest items) :
    Calls Tryz.prog 32 #[.pointer (some ⟨P, 0, none⟩), .int .i64 i, .int .i64 next] w fun e w' => e = .returned (.int .i64 (closeOpen t s.data.toList ⟨items, os⟩ ⟨a, f, image, shut⟩ i next).2) ∧ StAt w' B0 P s av tv (closeOpen t s.data.toList ⟨items, os⟩ ⟨a, f, image, shut⟩ i next).1 ∧ Below B0 w w' := by
  obtain ⟨R, hR⟩ : ∃ R, closeOpen t s.data.toList ⟨items, os⟩ ⟨a, f, image, shut⟩ i next = R := ⟨_, rfl⟩
  rw [hR]
  unfold closeOpen at hR
  simp only at hR
  obtain ⟨iao, ic, oao, oc, its, hV⟩ := h.vals
  obtain ⟨p0, p1, p2, p3, p4⟩ := ParAt.cells hV.par
  obtain ⟨g, rfl, hg0, hoc, hgl, o0, o1, o2, o3, _⟩ := hV.opn os.length _ (opn_get os _)
  have hPs : P < w.heap.size := par_lt hV.par
  have hws : (w.setCell ⟨P, 4, none⟩ (.slice (some ⟨g, 0, none⟩) os.length oc)).heap.size = w.heap.size := by simp [World.setCell]
  have hb0 := (Below.refl B0 w).setCell (p := ⟨P, 4, none⟩) hP0 (.slice (some ⟨g, 0, none⟩) os.length oc)
  obtain ⟨W0, hW0⟩ : ∃ W, w.setCell ⟨P, 4, none⟩ (.slice (some ⟨g, 0, none⟩) os.length oc) = W := ⟨_, rfl⟩
  have hV0 := hV.pop
  rw [hW0] at hV0 hb0 hws
  have hb1 : Below W0.heap.size W0 (W0.alloc (.cells #[.int .i64 (a : Int), .int .i64 (f : Int), .bool image, .bool shut] 101)) := (Below.refl _ W0).alloc (Nat.le_refl _) _
  have hV1 := hV0.below hb1
  have hB1 := hb0.trans (hb1.mono (Nat.le_trans hP0 (Nat.le_of_lt (by omega))))
  have f4 := ParAt.frozen hV.par 4
  obtain ⟨W1, hW1⟩ : ∃ W, W0.alloc (.cells #[.int .i64 (a : Int), .int .i64 (f : Int), .bool image, .bool shut] 101) = W := ⟨_, rfl⟩
  have hq : w.heap.size < W1.heap.size ∧ W1.cell? ⟨w.heap.size, 0, none⟩ = some (.int .i64 (a : Int)) ∧ W1.cell? ⟨w.heap.size, 1, none⟩ = some (.int .i64 (f : Int)) ∧ W1.cell? ⟨w.heap.size, 2, none⟩ = some (.bool image) ∧ W1.cell? ⟨w.heap.size, 3, none⟩ = some (.bool shut) := by
    rw [← hws, ← hW1]; simp
  rw [hW1] at hV1 hB1
  have hlen : (os ++ [(⟨a, f, image, shut⟩ : Opn)]).length = os.length + 1 := by simp
  simp only [hlen] at p4 hoc
  obtain ⟨m, hm⟩ : ∃ m, os.length = m := ⟨_, rfl⟩
  have HR := Lib.hid hR
  have HL := Lib.hid hL
  have HHL := Lib.hid hl
  rw [← hW0] at hW1
  rw [hm] at p4 o0 o1 o2 o3 hoc hol hW1
  have HQ := Lib.hid (And.intro hV1 (And.intro hB1 hq))
  have HW1 := Lib.hid hW1
  have HM := Lib.hid hm
  have hm1 : (m : Int) < (m : Int) + 1 := by omega
  have hmc : (m : Int) ≤ (oc : Int) := by omega
  clear hR hL hl hV1 hB1 hq hm hV h hlen p0 p1 p2 p3 hV0 hb0 hb1 hws hW1 hW0
  cases shut
  · obtain ⟨y, isb, hy⟩ : ∃ y b, askedL t ((s.data.toList.take i).drop f) = (y, b) := ⟨_, _, rfl⟩
    obtain ⟨X, hX⟩ : ∃ X, s.extract f i = X := ⟨_, rfl⟩
    have hXl : X.data.toList = (s.data.toList.take i).drop f := by rw [← hX, Lib.extract_data, List.take_drop, Nat.add_sub_cancel' hf]
    have hXz : X.size ≤ s.size := by rw [Lib.size_eq, hXl, List.length_drop, List.length_take, ← Lib.size_eq]; omega
    have hask := fun W hE hP hT => asked_any P s av tv (.slice iao items.length ic) (.slice (some ⟨g, 0, none⟩) os.length oc) t X W hE hP hT HHL.out (by omega)
    have hR := HR.out
    clear HR
    rw [if_neg (by simp), hy] at hR
    rw [hXl, hy] at hask
    simp only [Inl.val] at hask hR
    have HASK := Lib.hid hask
    have HR := Lib.hid hR
    have HXL := Lib.hid hXl
    have hfi : (f : Int) ≤ (i : Int) := by omega
    have his : (i : Int) ≤ (s.size : Int) := by omega
    have hns : (next : Int) ≤ (s.size : Int) := by omega
    clear hask hR hXl hy
    obtain ⟨gi, hiao, hgi, hic, _⟩ := HQ.out.1.itm (by show 0 < items.length; omega)
    replace hic : items.length ≤ ic := hic
    subst hiao
    have haI : (a : Int) ≤ (ic : Int) := by omega
    go_enter Tryz.func32, Tryz.ntmps32
    go_wp2_with fail
    rw [HW1.out]
    obtain ⟨p0, p1, p2, p3, _⟩ := ParAt.cells HQ.out.1.par
    have q1 := HQ.out.2.2.2.2.1
    clear HW1 p1 p2 p3 p4 o0 o1 o2 o3 f4
    go_quiet (fail)
    obtain ⟨W2, hW2⟩ : ∃ W, W1.drewN nq = W := ⟨_, rfl⟩
    have bq := below_drewN W1 nq
    rw [hW2] at bq ⊢
    have hV2 := HQ.out.1.below bq
    have hB2 := HQ.out.2.1.trans (bq.mono (st_size hP0 HQ.out.1.st))
    clear hW2 p0 q1
    have hask := HASK.out W2 (HL.out.step hB2).here.1 hV2.par (HL.out.step hB2).here.2.1
    have HASK2 := Lib.hid hask
    have q2 := (bq.cell (p := ⟨w.heap.size, 2, none⟩) HQ.out.2.2.1).trans HQ.out.2.2.2.2.2.1
    have q0 := (bq.cell (p := ⟨w.heap.size, 0, none⟩) HQ.out.2.2.1).trans HQ.out.2.2.2.1
    have hsz2 : w.heap.size < W2.heap.size := Nat.lt_of_lt_of_le HQ.out.2.2.1 bq.size
    have HV2 := Lib.hid (And.intro hV2 (And.intro q0 q2))
    clear hask HASK hV2 HQ bq q0 q2
    go_wp2_with fail
    refine HASK2.out.mono ?_
    rintro e w3 ⟨rfl, b3⟩
    have b4 := b3.alloc b3.size (.cells #[.int .i64 (y.kind : Int), .int .i64 (y.depth : Int), .string ⟨y.text.toArray⟩, .string ⟨y.url.toArray⟩, .string ⟨y.title.toArray⟩] 28)
    have q2 := (b4.cell (p := ⟨w.heap.size, 2, none⟩) hsz2).trans HV2.out.2.2
    have q0 := (b4.cell (p := ⟨w.heap.size, 0, none⟩) hsz2).trans HV2.out.2.1
    have hV4 := HV2.out.1.below b4
    have hB4 := hB2.trans (b4.mono (st_size hP0 HV2.out.1.st))
    have hsz4 := Nat.lt_of_lt_of_le hsz2 b4.size
    obtain ⟨p0, p1, p2, p3, p4⟩ := ParAt.cells hV4.par
    clear p1 p2 p4 HASK2 HV2 b4
    by_cases hq : isb = true ∧ image = false
    · obtain ⟨rfl, rfl⟩ := hq
      have HR2 := Lib.hid (show R = (PSt.put ⟨items.take a, os⟩ [y], 0) by rw [← HR.out, if_pos ⟨rfl, rfl⟩])
      have yc : (w3.alloc (.cells #[.int .i64 (y.kind : Int), .int .i64 (y.depth : Int), .string ⟨y.text.toArray⟩, .string ⟨y.url.toArray⟩, .string ⟨y.title.toArray⟩] 28)).cell? ⟨w3.heap.size, 0, none⟩ = some (.int .i64 (y.kind : Int)) ∧ (w3.alloc (.cells #[.int .i64 (y.kind : Int), .int .i64 (y.depth : Int), .string ⟨y.text.toArray⟩, .string ⟨y.url.toArray⟩, .string ⟨y.title.toArray⟩] 28)).cell? ⟨w3.heap.size, 1, none⟩ = some (.int .i64 (y.depth : Int)) ∧ (w3.alloc (.cells #[.int .i64 (y.kind : Int), .int .i64 (y.depth : Int), .string ⟨y.text.toArray⟩, .string ⟨y.url.toArray⟩, .string ⟨y.title.toArray⟩] 28)).cell? ⟨w3.heap.size, 2, none⟩ = some (.string ⟨y.text.toArray⟩) ∧ (w3.alloc (.cells #[.int .i64 (y.kind : Int), .int .i64 (y.depth : Int), .string ⟨y.text.toArray⟩, .string ⟨y.url.toArray⟩, .string ⟨y.title.toArray⟩] 28)).cell? ⟨w3.heap.size, 3, none⟩ = some (.string ⟨y.url.toArray⟩) ∧ (w3.alloc (.cells #[.int .i64 (y.kind : Int), .int .i64 (y.depth : Int), .string ⟨y.text.toArray⟩, .string ⟨y.url.toArray⟩, .string ⟨y.title.toArray⟩] 28)).cell? ⟨w3.heap.size, 4, none⟩ = some (.string ⟨y.title.toArray⟩) := by simp
      have YC := Lib.hid yc
      have HPL := Lib.hid (show P < w3.heap.size by have := b3.size; omega)
      clear yc HR b3
      go_wp2_with fail
      obtain ⟨W4, hW4⟩ : ∃ W, w3.alloc (.cells #[.int .i64 (y.kind : Int), .int .i64 (y.depth : Int), .string ⟨y.text.toArray⟩, .string ⟨y.url.toArray⟩, .string ⟨y.title.toArray⟩] 28) = W := ⟨_, rfl⟩
      rw [hW4] at q0 q2 hV4 hB4 hsz4 p0 p3 YC ⊢
      clear hW4 q2 p0
      go_still_tail 10, (by kernel_rfl)
      change wpList _ _ _ _ _ W4.drew
      have b5 := (Below.refl W4.heap.size W4).drew
      obtain ⟨W5, hW5⟩ : ∃ W, W4.drew = W := ⟨_, rfl⟩
      rw [hW5] at b5 ⊢
      have hV5 := hV4.below b5
      have hB5 := hB4.trans (b5.mono (st_size hP0 hV4.st))
      have f3 := ParAt.frozen hV5.par 3
      obtain ⟨y0, y1, y2, y3, y4⟩ := YC.out
      have hy4 : w3.heap.size < W4.heap.size := World.block_lt_of_cell? _ _ y0
      have y0 := (b5.cell (p := ⟨w3.heap.size, 0, none⟩) hy4).trans y0
      have y1 := (b5.cell (p := ⟨w3.heap.size, 1, none⟩) hy4).trans y1
      have y2 := (b5.cell (p := ⟨w3.heap.size, 2, none⟩) hy4).trans y2
      have y3 := (b5.cell (p := ⟨w3.heap.size, 3, none⟩) hy4).trans y3
      have y4 := (b5.cell (p := ⟨w3.heap.size, 4, none⟩) hy4).trans y4
      have hyP : ¬ w3.heap.size = P := by have := HPL.out; omega
      have hPy : ¬ P = w3.heap.size := fun h => hyP h.symm
      have HC := Lib.hid (hV5.cutI a (by show a ≤ items.length; omega)).st
      obtain ⟨_, _, _, p5, _⟩ := ParAt.cells hV5.par
      clear hW5 b5 hV4 hB4 q0 p3 YC hV5
      go_wp2_with fail
      refine (put_one B0 P s av tv ⟨items.take a, os⟩ y _ hP0 HC.out (by simp; omega) _ (by simp [World.setCell])).mono ?_
      rintro e wb ⟨rfl, sb, bb⟩
      go_wp2_with fail
      go_ret
      exact ⟨by rw [HR2.out]; rfl, by rw [HR2.out]; exact sb, (hB5.setCell (p := ⟨P, 3, none⟩) hP0 _).trans bb⟩
    · obtain ⟨Y, hY⟩ : ∃ Y, s.extract next s.size = Y := ⟨_, rfl⟩
      have hYl : Y.data.toList = s.data.toList.drop next := by rw [← hY, tail_list]
      have hYz : Y.size ≤ s.size := by rw [← hY, tail_size]; omega
      obtain ⟨z, n2, is2, hz2⟩ : ∃ z n b, inlLinkL t ((s.data.toList.take i).drop f) (s.data.toList.drop next) = (z, n, b) := ⟨_, _, _, rfl⟩
      have hlk := inlLink_any P s av tv (.slice (some ⟨gi, 0, none⟩) items.length ic) (.slice (some ⟨g, 0, none⟩) os.length oc) t X Y _ (HL.out.step hB4).here.1 hV4.par (HL.out.step hB4).here.2.1 HHL.out (by omega) (by omega)
      have hR := HR.out
      rw [if_neg hq, hz2] at hR
      rw [HXL.out, hYl, hz2] at hlk
      simp only [Inl.val] at hlk hR
      have HLK := Lib.hid hlk
      have HR2 := Lib.hid hR
      have hpk : isb = false ∨ (isb = true ∧ image = true) := by
        cases isb <;> cases image <;> simp at hq ⊢
      clear hlk hR hYl hz2 hq HR HXL
      rcases hpk with rfl | ⟨rfl, rfl⟩
      · go_wp2_with fail
        obtain ⟨W4, hW4⟩ : ∃ W, w3.alloc (.cells #[.int .i64 (y.kind : Int), .int .i64 (y.depth : Int), .string ⟨y.text.toArray⟩, .string ⟨y.url.toArray⟩, .string ⟨y.title.toArray⟩] 28) = W := ⟨_, rfl⟩
        rw [hW4] at q0 q2 hV4 hB4 hsz4 p0 p3 HLK ⊢
        clear hW4 p0 p3 b3
        refine HLK.out.mono ?_
        rintro e w5 ⟨rfl, b5⟩
        have b6 := b5.alloc b5.size (.cells #[.int .i64 (z.kind : Int), .int .i64 (z.depth : Int), .string ⟨z.text.toArray⟩, .string ⟨z.url.toArray⟩, .string ⟨z.title.toArray⟩] 28)
        have q2 := (b6.cell (p := ⟨w.heap.size, 2, none⟩) hsz4).trans q2
        have q0 := (b6.cell (p := ⟨w.heap.size, 0, none⟩) hsz4).trans q0
        have hB6 := hB4.trans (b6.mono (st_size hP0 hV4.st))
        have hV6 := hV4.below b6
        have hsz6 := Nat.lt_of_lt_of_le hsz4 b6.size
        have hzP : P < w5.heap.size := by have := b5.size; have := par_lt hV4.par; omega
        have zc : (w5.alloc (.cells #[.int .i64 (z.kind : Int), .int .i64 (z.depth : Int), .string ⟨z.text.toArray⟩, .string ⟨z.url.toArray⟩, .string ⟨z.title.toArray⟩] 28)).heap[w5.heap.size]? = some (.cells #[.int .i64 (z.kind : Int), .int .i64 (z.depth : Int), .string ⟨z.text.toArray⟩, .string ⟨z.url.toArray⟩, .string ⟨z.title.toArray⟩] 28 (0, 0)) := heap_alloc_new w5 _
        have ZC := Lib.hid zc
        have HFAR := Lib.hid (hV4.below b5 |>.far w5.heap.size (Nat.le_refl _))
        clear HLK hV4 hB4 b5 b6 hsz4 zc
        cases is2
        · have HR3 := Lib.hid (show R = (PSt.put ⟨items, os⟩ [wordsI [93]], 0) by rw [← HR2.out, if_pos rfl])
          clear HR2 q0 q2
          go_wp2_with fail
          refine (words_ag ⟨#[93]⟩ _).mono ?_
          rintro e wa ⟨rfl, ba⟩
          have ha := (hV6).st.below ba
          have hBa := (hB6).trans (ba.mono (st_size hP0 (hV6).st))
          go_wp2_with fail
          refine (put_lit B0 P s av tv ⟨items, os⟩ 1 1 rfl ⟨#[93]⟩ wa hP0 ha hn _ rfl).mono ?_
          rintro e wb ⟨rfl, sb, bb⟩
          go_wp2_with fail
          go_ret
          exact ⟨by rw [HR3.out]; rfl, by rw [HR3.out]; exact sb, hBa.trans bb⟩
        · go_wp2_with fail
          obtain ⟨W6, hW6⟩ : ∃ W, w5.alloc (.cells #[.int .i64 (z.kind : Int), .int .i64 (z.depth : Int), .string ⟨z.text.toArray⟩, .string ⟨z.url.toArray⟩, .string ⟨z.title.toArray⟩] 28) = W := ⟨_, rfl⟩
          rw [hW6] at q0 q2 hV6 hB6 hsz6 ZC ⊢
          obtain ⟨_, _, _, p3, _⟩ := ParAt.cells hV6.par
          obtain ⟨c, hc⟩ : ∃ c, a + 1 = c := ⟨_, rfl⟩
          have hwr : IntKind.i64.wrap ((a : Int) + 1) = (c : Int) := by rw [← hc]; exact IntWalk.i64_in _ (by omega)
          have hcl : (c : Int) ≤ (items.length : Int) := by omega
          have hcl2 : c ≤ items.length := by omega
          have HCA := Lib.hid hc
          clear hW6 hc
          go_still_tail 8, (by kernel_rfl)
          change wpList _ _ _ _ _ W6.drew
          have b7 := (Below.refl W6.heap.size W6).drew
          obtain ⟨W7, hW7⟩ : ∃ W, W6.drew = W := ⟨_, rfl⟩
          rw [hW7] at b7 ⊢
          have hV7 := hV6.below b7
          have hB7 := hB6.trans (b7.mono (st_size hP0 hV6.st))
          have q2 := (b7.cell (p := ⟨w.heap.size, 2, none⟩) hsz6).trans q2
          have q0 := (b7.cell (p := ⟨w.heap.size, 0, none⟩) hsz6).trans q0
          have zc := (b7.block _ (Array.getElem?_eq_some_iff.1 ZC.out).1).trans ZC.out
          have ZC := Lib.hid zc
          have hsz7 := Nat.lt_of_lt_of_le hsz6 b7.size
          have hgr := hV7.group c hcl2 hG hz hne
          clear hW7 b7 hV6 hB6 p3 hsz6 zc
          simp only at hgr
          generalize (if ic = c then (some ⟨gi, 0, none⟩ : Option Addr) else some ⟨gi, c * 5, none⟩) = A at hgr ⊢
          go_wp2_with fail
          refine hgr.mono ?_
          rintro e w8 ⟨v8, rfl, hI8, b8⟩
          have HI8 := Lib.hid hI8
          have hV8 := hV7.below b8
          have hB8 := hB7.trans (b8.mono (st_size hP0 hV7.st))
          have q2 := (b8.cell (p := ⟨w.heap.size, 2, none⟩) hsz7).trans q2
          have q0 := (b8.cell (p := ⟨w.heap.size, 0, none⟩) hsz7).trans q0
          have zc := (b8.block _ (Array.getElem?_eq_some_iff.1 ZC.out).1).trans ZC.out
          have ZC := Lib.hid zc
          have hsz8 := Nat.lt_of_lt_of_le hsz7 b8.size
          clear hgr hV7 hB7 b8 hsz7 zc hI8
          obtain ⟨vao, vc, hv8, hRv, _⟩ := own_slice HI8.out
          subst hv8
          have HRV := Lib.hid hRv
          clear hRv
          go_wp2_with fail
          obtain ⟨_, _, _, p3, _⟩ := ParAt.cells hV8.par
          go_still_tail 10, (by kernel_rfl)
          change wpList _ _ _ _ _ w8.drew
          have b9 := (Below.refl w8.heap.size w8).drew
          obtain ⟨W9, hW9⟩ : ∃ W, w8.drew = W := ⟨_, rfl⟩
          rw [hW9] at b9 ⊢
          have hV9 := hV8.below b9
          have hB9 := hB8.trans (b9.mono (st_size hP0 hV8.st))
          have q2 := (b9.cell (p := ⟨w.heap.size, 2, none⟩) hsz8).trans q2
          have zc := (b9.block _ (Array.getElem?_eq_some_iff.1 ZC.out).1).trans ZC.out
          have hI9 := HI8.out.below b9
          have hsz9 := Nat.lt_of_lt_of_le hsz8 b9.size
          have f3 := ParAt.frozen hV9.par 3
          obtain ⟨_, _, _, p3, _⟩ := ParAt.cells hV9.par
          have hC := hV9.cutI a (by show a ≤ items.length; omega)
          have hIC := hI9.setCell (a := ⟨P, 3, none⟩) hV9.par (by decide) (.slice (some ⟨gi, 0, none⟩) a ic)
          have hBC := hB9.setCell (p := ⟨P, 3, none⟩) hP0 (.slice (some ⟨gi, 0, none⟩) a ic)
          have hwP : ¬ w.heap.size = P := by omega
          have hPw : ¬ P = w.heap.size := fun h => hwP h.symm
          have hPz : ¬ w5.heap.size = P := by omega
          have zcC : (W9.setCell ⟨P, 3, none⟩ (.slice (some ⟨gi, 0, none⟩) a ic)).heap[w5.heap.size]? = some (.cells #[.int .i64 (z.kind : Int), .int .i64 (z.depth : Int), .string ⟨z.text.toArray⟩, .string ⟨z.url.toArray⟩, .string ⟨z.title.toArray⟩] 28 (0, 0)) := by
            rw [Below.heap_setCell _ _ _ _ hPz, zc]
          have q2C : (W9.setCell ⟨P, 3, none⟩ (.slice (some ⟨gi, 0, none⟩) a ic)).cell? ⟨w.heap.size, 2, none⟩ = some (.bool image) := by
            rw [← q2]; unfold World.cell?; rw [Below.heap_setCell _ _ _ _ (show ¬ w.heap.size = P from hwP)]
          have HX := Lib.hid (And.intro hC (And.intro hIC (And.intro hBC (And.intro zcC q2C))))
          clear hW9 b9 hV8 hB8 hV9 hB9 zc hI9 hC hIC hBC zcC q2C HI8 q0 hsz8 ZC
          go_upto_region 22 with fail
          obtain ⟨WC, hWC⟩ : ∃ W, W9.setCell ⟨P, 3, none⟩ (.slice (some ⟨gi, 0, none⟩) a ic) = W := ⟨_, rfl⟩
          have hX := HX.out
          rw [hWC] at hX ⊢
          obtain ⟨hC, hIC, hBC, zcC, q2C⟩ := hX
          clear hWC HX p3 f3 q2
          have hgw := group_wt (items.drop c)
          have hgd := itsW_cut items c
          have hgl2 := wtL_len (groupL (items.drop c))
          have hgs := wtL_sum (groupL (items.drop c))
          have hgn := nest_depth (group_nest (hne.drop c)).2
          obtain ⟨ins, hins⟩ : ∃ l, groupL (items.drop c) = l := ⟨_, rfl⟩
          have hR := HR2.out
          rw [if_neg (by simp), HCA.out, hins] at hR
          rw [hins] at hIC HRV hgw hgl2 hgs hgn ⊢
          have hil : ins.length ≤ 100000000000 := by omega
          have HGN := Lib.hid hgn
          have HGS := Lib.hid (show textSum ins ≤ 100000000000 by unfold textSum; omega)
          have HIC := Lib.hid hIC
          have HR := Lib.hid hR
          obtain ⟨z0, z1, z2, z3, z4⟩ : WC.cell? ⟨w5.heap.size, 0, none⟩ = some (.int .i64 (z.kind : Int)) ∧ WC.cell? ⟨w5.heap.size, 1, none⟩ = some (.int .i64 (z.depth : Int)) ∧ WC.cell? ⟨w5.heap.size, 2, none⟩ = some (.string ⟨z.text.toArray⟩) ∧ WC.cell? ⟨w5.heap.size, 3, none⟩ = some (.string ⟨z.url.toArray⟩) ∧ WC.cell? ⟨w5.heap.size, 4, none⟩ = some (.string ⟨z.title.toArray⟩) := by
            refine ⟨?_, ?_, ?_, ?_, ?_⟩ <;> (rw [cell_of_row WC w5.heap.size _ _ _ _ zcC]; rfl)
          have ZC := Lib.hid zcC
          have hzl : w5.heap.size < WC.heap.size := (Array.getElem?_eq_some_iff.1 zcC).1
          clear hgw hgd hgl2 hgs hgn hins hR hIC zcC HR2
          cases image
          · have HR3 := Lib.hid (show R = ({ (PSt.put ⟨items.take a, os⟩ (withinL z ins)) with opens := os.map shutOpen }, n2) by rw [← HR.out, if_neg (by simp)])
            have hwi := within_any z _ ins WC HIC.out (by omega) (fun x hx => by have := HGN.out x hx; omega)
            simp only [Inl.val] at hwi
            have HWI := Lib.hid hwi
            clear hwi HR
            go_wp2_with fail
            refine HWI.out.mono ?_
            rintro e w11 ⟨v11, rfl, hI11, b11⟩
            have hV11 := hC.below b11
            have hB11 := hBC.trans (b11.mono (st_size hP0 hC.st))
            have HPU := Lib.hid (put_any B0 P s av tv v11 _ _ w11 hP0 hV11.st hI11 (by show (items.take a).length ≤ _; simp; omega))
            clear hI11 b11 hC hBC HWI hV11
            go_wp2_with fail
            refine HPU.out.mono ?_
            rintro e w12 ⟨rfl, sb, bb⟩
            have hB12 := hB11.trans bb
            obtain ⟨ia, icc, oa, occ, itt, hV12⟩ := sb.vals
            obtain ⟨_, _, _, _, p4⟩ := ParAt.cells hV12.par
            have hol2 : (PSt.put ⟨items.take a, os⟩ (withinL z ins)).opens.length = m := HM.out
            have HV12 := Lib.hid (show StV w12 B0 P s av tv ia icc oa occ itt { (PSt.put ⟨items.take a, os⟩ (withinL z ins)) with opens := (os.take 0).map shutOpen ++ os.drop 0 } by rw [show (os.take 0).map shutOpen ++ os.drop 0 = os by simp]; exact hV12)
            replace p4 : w12.cell? ⟨P, 4, none⟩ = some (.slice oa (PSt.put ⟨items.take a, os⟩ (withinL z ins)).opens.length occ) := p4
            rw [hol2] at p4
            clear hV12 sb bb HPU hB11 hol2 z0 z1 z2 z3 z4 hzl q2C HIC ZC HFAR HRV
            go_wp2_with fail
            go_loopw [144] (fun u wr => ∃ k : Nat, k ≤ m ∧ u = .int .i64 k ∧ StV wr B0 P s av tv ia icc oa occ itt { (PSt.put ⟨items.take a, os⟩ (withinL z ins)) with opens := (os.take k).map shutOpen ++ os.drop k } ∧ Below B0 w wr) (fun u _ => m - (intOf u).toNat)
            case atStart => exact ⟨0, Nat.zero_le _, rfl, HV12.out, hB12⟩
            case round =>
              clear p4 HV12 hB12
              obtain ⟨k, hk, rfl, hV, hB⟩ := hrel
              by_cases hlt : k < m
              · obtain ⟨x, hx⟩ := getElem?_ex os k (by rw [HM.out]; exact hlt)
                obtain ⟨hx1, hx2⟩ := shut_next os k x hx
                have HX2 := Lib.hid hx2
                have hln : ((os.take k).map shutOpen ++ os.drop k).length = m := by rw [List.length_append, List.length_map, List.length_take, List.length_drop, HM.out]; omega
                have hki : (k : Int) < (m : Int) := by omega
                obtain ⟨xa, xf, xi, xs⟩ := x
                cases xs
                · cases xi
                  · obtain ⟨g2, hg0, hg2, hc2, hgl2, o0, o1, o2, o3, o4⟩ := hV.opn k _ hx1
                    subst hg0
                    obtain ⟨_, _, _, _, p4⟩ := ParAt.cells hV.par
                    replace p4 : wr.cell? ⟨P, 4, none⟩ = some (.slice (some ⟨g2, 0, none⟩) ((os.take k).map shutOpen ++ os.drop k).length occ) := p4
                    rw [hln] at p4
                    have hsh : StV (wr.setCell ⟨g2, k * 4 + 3, none⟩ (.bool true)) B0 P s av tv ia icc (some ⟨g2, 0, none⟩) occ itt { (PSt.put ⟨items.take a, os⟩ (withinL z ins)) with opens := (os.take (k + 1)).map shutOpen ++ os.drop (k + 1) } := by rw [← HX2.out]; exact hV.shut k _ hx1
                    have HN := Lib.hid (hsh.below (Below.refl _ _).drew)
                    have hBd := (hB.setCell (p := ⟨g2, k * 4 + 3, none⟩) hg2 (.bool true)).drew
                    clear hV hx1 hx2 hx hB o0 o1 hln hc2 hsh
                    go_wp2_with fail
                    go_region
                    all_goals
                      go_wp2_with fail
                      go_roundw
                      case rel => exact ⟨k + 1, by omega, by go_num, HN.out, hBd⟩
                      case measure => simp [intOf]; omega
                  · obtain ⟨g2, hg0, hg2, hc2, hgl2, o0, o1, o2, o3, o4⟩ := hV.opn k _ hx1
                    subst hg0
                    obtain ⟨_, _, _, _, p4⟩ := ParAt.cells hV.par
                    replace p4 : wr.cell? ⟨P, 4, none⟩ = some (.slice (some ⟨g2, 0, none⟩) ((os.take k).map shutOpen ++ os.drop k).length occ) := p4
                    rw [hln] at p4
                    have hsh : StV (wr.setCell ⟨g2, k * 4 + 3, none⟩ (.bool false)) B0 P s av tv ia icc (some ⟨g2, 0, none⟩) occ itt { (PSt.put ⟨items.take a, os⟩ (withinL z ins)) with opens := (os.take (k + 1)).map shutOpen ++ os.drop (k + 1) } := by rw [← HX2.out]; exact hV.shut k _ hx1
                    have HN := Lib.hid (hsh.below (Below.refl _ _).drew)
                    have hBd := (hB.setCell (p := ⟨g2, k * 4 + 3, none⟩) hg2 (.bool false)).drew
                    clear hV hx1 hx2 hx hB o0 o1 hln hc2 hsh
                    go_wp2_with fail
                    go_region
                    all_goals
                      go_wp2_with fail
                      go_roundw
                      case rel => exact ⟨k + 1, by omega, by go_num, HN.out, hBd⟩
                      case measure => simp [intOf]; omega
                · obtain ⟨g2, hg0, hg2, hc2, hgl2, o0, o1, o2, o3, o4⟩ := hV.opn k _ hx1
                  subst hg0
                  obtain ⟨_, _, _, _, p4⟩ := ParAt.cells hV.par
                  replace p4 : wr.cell? ⟨P, 4, none⟩ = some (.slice (some ⟨g2, 0, none⟩) ((os.take k).map shutOpen ++ os.drop k).length occ) := p4
                  rw [hln] at p4
                  have hsh : StV (wr.setCell ⟨g2, k * 4 + 3, none⟩ (.bool true)) B0 P s av tv ia icc (some ⟨g2, 0, none⟩) occ itt { (PSt.put ⟨items.take a, os⟩ (withinL z ins)) with opens := (os.take (k + 1)).map shutOpen ++ os.drop (k + 1) } := by rw [← HX2.out]; exact hV.shut k _ hx1
                  have HN := Lib.hid (hsh.below (Below.refl _ _).drew)
                  have hBd := (hB.setCell (p := ⟨g2, k * 4 + 3, none⟩) hg2 (.bool true)).drew
                  clear hV hx1 hx2 hx hB o0 o1 hln hc2 hsh
                  go_wp2_with fail
                  go_region
                  all_goals
                    go_wp2_with fail
                    go_roundw
                    case rel => exact ⟨k + 1, by omega, by go_num, HN.out, hBd⟩
                    case measure => simp [intOf]; omega
              · obtain rfl : k = m := by omega
                go_wp2_with fail
                go_ret
                have hfin : (os.take k).map shutOpen ++ os.drop k = os.map shutOpen := by rw [← HM.out, List.take_length, List.drop_length, List.append_nil]
                rw [hfin] at hV
                exact ⟨by rw [HR3.out]; rfl, by rw [HR3.out]; exact hV.st, hB⟩
          · have HR3 := Lib.hid (show R = (PSt.put ⟨items.take a, os⟩ [⟨6, z.depth, textL ins, z.url, z.title⟩], n2) by rw [← HR.out]; simp)
            have htx := text_any vao vc ins WC (own_rowR HIC.out).2.1 (by omega) (by have := HGS.out; omega)
            have HTX := Lib.hid htx
            have f0 := frozen_of_row WC w5.heap.size 0 _ _ ZC.out
            clear htx HR
            go_wp2_with fail
            refine HTX.out.mono ?_
            rintro e w11 ⟨rfl, b11⟩
            have hV11 := hC.below b11
            have hB11 := hBC.trans (b11.mono (st_size hP0 hC.st))
            have zc := (b11.block _ hzl).trans ZC.out
            have g0 := frozen_of_row w11 w5.heap.size 0 _ _ zc
            have g2 := frozen_of_row w11 w5.heap.size 2 _ _ zc
            have z0 := (b11.cell (p := ⟨w5.heap.size, 0, none⟩) hzl).trans z0
            have z1 := (b11.cell (p := ⟨w5.heap.size, 1, none⟩) hzl).trans z1
            have z2 := (b11.cell (p := ⟨w5.heap.size, 2, none⟩) hzl).trans z2
            have z3 := (b11.cell (p := ⟨w5.heap.size, 3, none⟩) hzl).trans z3
            have z4 := (b11.cell (p := ⟨w5.heap.size, 4, none⟩) hzl).trans z4
            have hfar : ∀ x ∈ its.take a, x.2.ownBlock ≠ some w5.heap.size := fun x hx => HFAR.out x (List.mem_of_mem_take hx)
            have hS1 := hV11.setOther ⟨w5.heap.size, 0, none⟩ _ zc hfar (.int .i64 6)
            have hS2 := hS1.setOther ⟨w5.heap.size, 2, none⟩ _ (heap_setCell_same w11 w5.heap.size 0 _ _ _ zc) hfar (.string ⟨(textL ins).toArray⟩)
            have hz0 : B0 ≤ w5.heap.size := by omega
            have hB12 := (hB11.setCell (p := ⟨w5.heap.size, 0, none⟩) hz0 (.int .i64 6)).setCell (p := ⟨w5.heap.size, 2, none⟩) hz0 (.string ⟨(textL ins).toArray⟩)
            have HS2 := Lib.hid (And.intro hS2.st hB12)
            clear hV11 hB11 hS1 hS2 hB12 zc b11 hC hBC HTX hfar ZC HIC f0
            go_wp2_with fail
            refine (put_one B0 P s av tv ⟨items.take a, os⟩ ⟨6, z.depth, textL ins, z.url, z.title⟩ _ hP0 HS2.out.1 (by simp; omega) _ (by simp [World.setCell])).mono ?_
            rintro e wb ⟨rfl, sb, bb⟩
            go_wp2_with fail
            go_ret
            exact ⟨by rw [HR3.out]; rfl, by rw [HR3.out]; exact sb, HS2.out.2.trans bb⟩
      · go_wp2_with fail
        obtain ⟨W4, hW4⟩ : ∃ W, w3.alloc (.cells #[.int .i64 (y.kind : Int), .int .i64 (y.depth : Int), .string ⟨y.text.toArray⟩, .string ⟨y.url.toArray⟩, .string ⟨y.title.toArray⟩] 28) = W := ⟨_, rfl⟩
        rw [hW4] at q0 q2 hV4 hB4 hsz4 p0 p3 HLK ⊢
        clear hW4 p0 p3 b3
        refine HLK.out.mono ?_
        rintro e w5 ⟨rfl, b5⟩
        have b6 := b5.alloc b5.size (.cells #[.int .i64 (z.kind : Int), .int .i64 (z.depth : Int), .string ⟨z.text.toArray⟩, .string ⟨z.url.toArray⟩, .string ⟨z.title.toArray⟩] 28)
        have q2 := (b6.cell (p := ⟨w.heap.size, 2, none⟩) hsz4).trans q2
        have q0 := (b6.cell (p := ⟨w.heap.size, 0, none⟩) hsz4).trans q0
        have hB6 := hB4.trans (b6.mono (st_size hP0 hV4.st))
        have hV6 := hV4.below b6
        have hsz6 := Nat.lt_of_lt_of_le hsz4 b6.size
        have hzP : P < w5.heap.size := by have := b5.size; have := par_lt hV4.par; omega
        have zc : (w5.alloc (.cells #[.int .i64 (z.kind : Int), .int .i64 (z.depth : Int), .string ⟨z.text.toArray⟩, .string ⟨z.url.toArray⟩, .string ⟨z.title.toArray⟩] 28)).heap[w5.heap.size]? = some (.cells #[.int .i64 (z.kind : Int), .int .i64 (z.depth : Int), .string ⟨z.text.toArray⟩, .string ⟨z.url.toArray⟩, .string ⟨z.title.toArray⟩] 28 (0, 0)) := heap_alloc_new w5 _
        have ZC := Lib.hid zc
        have HFAR := Lib.hid (hV4.below b5 |>.far w5.heap.size (Nat.le_refl _))
        clear HLK hV4 hB4 b5 b6 hsz4 zc
        cases is2
        · have HR3 := Lib.hid (show R = (PSt.put ⟨items, os⟩ [wordsI [93]], 0) by rw [← HR2.out, if_pos rfl])
          clear HR2 q0 q2
          go_wp2_with fail
          refine (words_ag ⟨#[93]⟩ _).mono ?_
          rintro e wa ⟨rfl, ba⟩
          have ha := (hV6).st.below ba
          have hBa := (hB6).trans (ba.mono (st_size hP0 (hV6).st))
          go_wp2_with fail
          refine (put_lit B0 P s av tv ⟨items, os⟩ 1 1 rfl ⟨#[93]⟩ wa hP0 ha hn _ rfl).mono ?_
          rintro e wb ⟨rfl, sb, bb⟩
          go_wp2_with fail
          go_ret
          exact ⟨by rw [HR3.out]; rfl, by rw [HR3.out]; exact sb, hBa.trans bb⟩
        · go_wp2_with fail
          obtain ⟨W6, hW6⟩ : ∃ W, w5.alloc (.cells #[.int .i64 (z.kind : Int), .int .i64 (z.depth : Int), .string ⟨z.text.toArray⟩, .string ⟨z.url.toArray⟩, .string ⟨z.title.toArray⟩] 28) = W := ⟨_, rfl⟩
          rw [hW6] at q0 q2 hV6 hB6 hsz6 ZC ⊢
          obtain ⟨_, _, _, p3, _⟩ := ParAt.cells hV6.par
          obtain ⟨c, hc⟩ : ∃ c, a + 1 = c := ⟨_, rfl⟩
          have hwr : IntKind.i64.wrap ((a : Int) + 1) = (c : Int) := by rw [← hc]; exact IntWalk.i64_in _ (by omega)
          have hcl : (c : Int) ≤ (items.length : Int) := by omega
          have hcl2 : c ≤ items.length := by omega
          have HCA := Lib.hid hc
          clear hW6 hc
          go_still_tail 8, (by kernel_rfl)
          change wpList _ _ _ _ _ W6.drew
          have b7 := (Below.refl W6.heap.size W6).drew
          obtain ⟨W7, hW7⟩ : ∃ W, W6.drew = W := ⟨_, rfl⟩
          rw [hW7] at b7 ⊢
          have hV7 := hV6.below b7
          have hB7 := hB6.trans (b7.mono (st_size hP0 hV6.st))
          have q2 := (b7.cell (p := ⟨w.heap.size, 2, none⟩) hsz6).trans q2
          have q0 := (b7.cell (p := ⟨w.heap.size, 0, none⟩) hsz6).trans q0
          have zc := (b7.block _ (Array.getElem?_eq_some_iff.1 ZC.out).1).trans ZC.out
          have ZC := Lib.hid zc
          have hsz7 := Nat.lt_of_lt_of_le hsz6 b7.size
          have hgr := hV7.group c hcl2 hG hz hne
          clear hW7 b7 hV6 hB6 p3 hsz6 zc
          simp only at hgr
          generalize (if ic = c then (some ⟨gi, 0, none⟩ : Option Addr) else some ⟨gi, c * 5, none⟩) = A at hgr ⊢
          go_wp2_with fail
          refine hgr.mono ?_
          rintro e w8 ⟨v8, rfl, hI8, b8⟩
          have HI8 := Lib.hid hI8
          have hV8 := hV7.below b8
          have hB8 := hB7.trans (b8.mono (st_size hP0 hV7.st))
          have q2 := (b8.cell (p := ⟨w.heap.size, 2, none⟩) hsz7).trans q2
          have q0 := (b8.cell (p := ⟨w.heap.size, 0, none⟩) hsz7).trans q0
          have zc := (b8.block _ (Array.getElem?_eq_some_iff.1 ZC.out).1).trans ZC.out
          have ZC := Lib.hid zc
          have hsz8 := Nat.lt_of_lt_of_le hsz7 b8.size
          clear hgr hV7 hB7 b8 hsz7 zc hI8
          obtain ⟨vao, vc, hv8, hRv, _⟩ := own_slice HI8.out
          subst hv8
          have HRV := Lib.hid hRv
          clear hRv
          go_wp2_with fail
          obtain ⟨_, _, _, p3, _⟩ := ParAt.cells hV8.par
          go_still_tail 10, (by kernel_rfl)
          change wpList _ _ _ _ _ w8.drew
          have b9 := (Below.refl w8.heap.size w8).drew
          obtain ⟨W9, hW9⟩ : ∃ W, w8.drew = W := ⟨_, rfl⟩
          rw [hW9] at b9 ⊢
          have hV9 := hV8.below b9
          have hB9 := hB8.trans (b9.mono (st_size hP0 hV8.st))
          have q2 := (b9.cell (p := ⟨w.heap.size, 2, none⟩) hsz8).trans q2
          have zc := (b9.block _ (Array.getElem?_eq_some_iff.1 ZC.out).1).trans ZC.out
          have hI9 := HI8.out.below b9
          have hsz9 := Nat.lt_of_lt_of_le hsz8 b9.size
          have f3 := ParAt.frozen hV9.par 3
          obtain ⟨_, _, _, p3, _⟩ := ParAt.cells hV9.par
          have hC := hV9.cutI a (by show a ≤ items.length; omega)
          have hIC := hI9.setCell (a := ⟨P, 3, none⟩) hV9.par (by decide) (.slice (some ⟨gi, 0, none⟩) a ic)
          have hBC := hB9.setCell (p := ⟨P, 3, none⟩) hP0 (.slice (some ⟨gi, 0, none⟩) a ic)
          have hwP : ¬ w.heap.size = P := by omega
          have hPw : ¬ P = w.heap.size := fun h => hwP h.symm
          have hPz : ¬ w5.heap.size = P := by omega
          have zcC : (W9.setCell ⟨P, 3, none⟩ (.slice (some ⟨gi, 0, none⟩) a ic)).heap[w5.heap.size]? = some (.cells #[.int .i64 (z.kind : Int), .int .i64 (z.depth : Int), .string ⟨z.text.toArray⟩, .string ⟨z.url.toArray⟩, .string ⟨z.title.toArray⟩] 28 (0, 0)) := by
            rw [Below.heap_setCell _ _ _ _ hPz, zc]
          have q2C : (W9.setCell ⟨P, 3, none⟩ (.slice (some ⟨gi, 0, none⟩) a ic)).cell? ⟨w.heap.size, 2, none⟩ = some (.bool true) := by
            rw [← q2]; unfold World.cell?; rw [Below.heap_setCell _ _ _ _ (show ¬ w.heap.size = P from hwP)]
          have HX := Lib.hid (And.intro hC (And.intro hIC (And.intro hBC (And.intro zcC q2C))))
          clear hW9 b9 hV8 hB8 hV9 hB9 zc hI9 hC hIC hBC zcC q2C HI8 q0 hsz8 ZC
          go_upto_region 22 with fail
          obtain ⟨WC, hWC⟩ : ∃ W, W9.setCell ⟨P, 3, none⟩ (.slice (some ⟨gi, 0, none⟩) a ic) = W := ⟨_, rfl⟩
          have hX := HX.out
          rw [hWC] at hX ⊢
          obtain ⟨hC, hIC, hBC, zcC, q2C⟩ := hX
          clear hWC HX p3 f3 q2
          have hgw := group_wt (items.drop c)
          have hgd := itsW_cut items c
          have hgl2 := wtL_len (groupL (items.drop c))
          have hgs := wtL_sum (groupL (items.drop c))
          have hgn := nest_depth (group_nest (hne.drop c)).2
          obtain ⟨ins, hins⟩ : ∃ l, groupL (items.drop c) = l := ⟨_, rfl⟩
          have hR := HR2.out
          rw [if_neg (by simp), HCA.out, hins] at hR
          rw [hins] at hIC HRV hgw hgl2 hgs hgn ⊢
          have hil : ins.length ≤ 100000000000 := by omega
          have HGN := Lib.hid hgn
          have HGS := Lib.hid (show textSum ins ≤ 100000000000 by unfold textSum; omega)
          have HIC := Lib.hid hIC
          have HR := Lib.hid hR
          obtain ⟨z0, z1, z2, z3, z4⟩ : WC.cell? ⟨w5.heap.size, 0, none⟩ = some (.int .i64 (z.kind : Int)) ∧ WC.cell? ⟨w5.heap.size, 1, none⟩ = some (.int .i64 (z.depth : Int)) ∧ WC.cell? ⟨w5.heap.size, 2, none⟩ = some (.string ⟨z.text.toArray⟩) ∧ WC.cell? ⟨w5.heap.size, 3, none⟩ = some (.string ⟨z.url.toArray⟩) ∧ WC.cell? ⟨w5.heap.size, 4, none⟩ = some (.string ⟨z.title.toArray⟩) := by
            refine ⟨?_, ?_, ?_, ?_, ?_⟩ <;> (rw [cell_of_row WC w5.heap.size _ _ _ _ zcC]; rfl)
          have ZC := Lib.hid zcC
          have hzl : w5.heap.size < WC.heap.size := (Array.getElem?_eq_some_iff.1 zcC).1
          clear hgw hgd hgl2 hgs hgn hins hR hIC zcC HR2
          have HR3 := Lib.hid (show R = (PSt.put ⟨items.take a, os⟩ [⟨6, z.depth, textL ins, z.url, z.title⟩], n2) by rw [← HR.out]; simp)
          have htx := text_any vao vc ins WC (own_rowR HIC.out).2.1 (by omega) (by have := HGS.out; omega)
          have HTX := Lib.hid htx
          have f0 := frozen_of_row WC w5.heap.size 0 _ _ ZC.out
          clear htx HR
          go_wp2_with fail
          refine HTX.out.mono ?_
          rintro e w11 ⟨rfl, b11⟩
          have hV11 := hC.below b11
          have hB11 := hBC.trans (b11.mono (st_size hP0 hC.st))
          have zc := (b11.block _ hzl).trans ZC.out
          have g0 := frozen_of_row w11 w5.heap.size 0 _ _ zc
          have g2 := frozen_of_row w11 w5.heap.size 2 _ _ zc
          have z0 := (b11.cell (p := ⟨w5.heap.size, 0, none⟩) hzl).trans z0
          have z1 := (b11.cell (p := ⟨w5.heap.size, 1, none⟩) hzl).trans z1
          have z2 := (b11.cell (p := ⟨w5.heap.size, 2, none⟩) hzl).trans z2
          have z3 := (b11.cell (p := ⟨w5.heap.size, 3, none⟩) hzl).trans z3
          have z4 := (b11.cell (p := ⟨w5.heap.size, 4, none⟩) hzl).trans z4
          have hfar : ∀ x ∈ its.take a, x.2.ownBlock ≠ some w5.heap.size := fun x hx => HFAR.out x (List.mem_of_mem_take hx)
          have hS1 := hV11.setOther ⟨w5.heap.size, 0, none⟩ _ zc hfar (.int .i64 6)
          have hS2 := hS1.setOther ⟨w5.heap.size, 2, none⟩ _ (heap_setCell_same w11 w5.heap.size 0 _ _ _ zc) hfar (.string ⟨(textL ins).toArray⟩)
          have hz0 : B0 ≤ w5.heap.size := by omega
          have hB12 := (hB11.setCell (p := ⟨w5.heap.size, 0, none⟩) hz0 (.int .i64 6)).setCell (p := ⟨w5.heap.size, 2, none⟩) hz0 (.string ⟨(textL ins).toArray⟩)
          have HS2 := Lib.hid (And.intro hS2.st hB12)
          clear hV11 hB11 hS1 hS2 hB12 zc b11 hC hBC HTX hfar ZC HIC f0
          go_wp2_with fail
          refine (put_one B0 P s av tv ⟨items.take a, os⟩ ⟨6, z.depth, textL ins, z.url, z.title⟩ _ hP0 HS2.out.1 (by simp; omega) _ (by simp [World.setCell])).mono ?_
          rintro e wb ⟨rfl, sb, bb⟩
          go_wp2_with fail
          go_ret
          exact ⟨by rw [HR3.out]; rfl, by rw [HR3.out]; exact sb, HS2.out.2.trans bb⟩
  · have HR2 := Lib.hid (show R = (PSt.put ⟨items, os⟩ [wordsI [93]], 0) by rw [← HR.out, if_pos rfl])
    clear HR
    go_enter Tryz.func32, Tryz.ntmps32
    go_wp2_with fail
    rw [HW1.out]
    go_wp2_with fail
    refine (words_ag ⟨#[93]⟩ _).mono ?_
    rintro e wa ⟨rfl, ba⟩
    have ha := (HQ.out.1).st.below ba
    have hBa := (HQ.out.2.1).trans (ba.mono (st_size hP0 (HQ.out.1).st))
    go_wp2_with fail
    refine (put_lit B0 P s av tv ⟨items, os⟩ 1 1 rfl ⟨#[93]⟩ wa hP0 ha hn _ rfl).mono ?_
    rintro e wb ⟨rfl, sb, bb⟩
    go_wp2_with fail
    go_ret
    exact ⟨by rw [HR2.out]; rfl, by rw [HR2.out]; exact sb, hBa.trans bb⟩

end Go.Proofs.YtahljcbmckldhaaGreatDoor

/-
  What token's readers make of plain text: plain facts, no program in sight.
-/
namespace Go.Proofs.YtahljcbmckldhaaGreatDoor
open Go.RowKit
set_option maxRecDepth 100000
set_option linter.unusedVariables false
set_option linter.unusedSimpArgs false

theorem among_run (set : List UInt8) : ∀ (a b : List UInt8), (∀ x ∈ a, set.contains x = true) → amongL (a ++ b) set = a.length + amongL b set
  | [], b, _ => by simp
  | c :: a, b, h => by
    rw [List.cons_append, among_cons, if_pos (h c (List.mem_cons_self ..)), among_run set a b (fun x hx => h x (List.mem_cons_of_mem _ hx)), List.length_cons]
    omega
theorem among_stop (set : List UInt8) (c : UInt8) (b : List UInt8) (h : set.contains c = false) : amongL (c :: b) set = 0 := by rw [among_cons, h]; rfl
theorem among_to (set a : List UInt8) (c : UInt8) (b : List UInt8) (ha : ∀ x ∈ a, set.contains x = true) (hc : set.contains c = false) : amongL (a ++ c :: b) set = a.length := by
  rw [among_run set a _ ha, among_stop set c b hc]; omega
theorem among_all (set a : List UInt8) (ha : ∀ x ∈ a, set.contains x = true) : amongL a set = a.length := by
  have := among_run set a [] ha
  rw [List.append_nil, among_nil] at this
  omega
theorem rep_in (set : List UInt8) (x : UInt8) (n : Nat) (h : set.contains x = true) : ∀ y ∈ List.replicate n x, set.contains y = true := fun y hy => by
  rw [(List.mem_replicate.1 hy).2]; exact h

theorem all_nil (f : Nat) : allL f [] = [] := by cases f <;> simp [allL]
theorem all_cons (f : Nat) (s : List UInt8) (t : Tok) (n : Nat) (hs : s ≠ []) (h : nextL s = (t, n)) : allL (f + 1) s = t :: allL f (s.drop n) := by
  rw [allL, if_neg hs, h]

/-! ### TokenRuns -/
theorem next_run (x : UInt8) (n : Nat) (r : List UInt8) (hx : x = 42 ∨ x = 95) (hn : 1 ≤ n) (hr : r = [] ∨ ∃ c b, r = c :: b ∧ ([x] : List UInt8).contains c = false) : nextL (List.replicate n x ++ r) = (.run x n, n) := by
  obtain ⟨m, rfl⟩ : ∃ m, n = m + 1 := ⟨n - 1, by omega⟩
  have ha : amongL (List.replicate (m + 1) x ++ r) [x] = m + 1 := by
    rcases hr with rfl | ⟨c, b, rfl, hc⟩
    · rw [List.append_nil, among_all _ _ (rep_in [x] x _ (by simp)), List.length_replicate]
    · rw [among_to _ _ _ _ (rep_in [x] x _ (by simp)) hc, List.length_replicate]
  have hb : beginsL (List.replicate (m + 1) x ++ r) = some (.run x (m + 1), m + 1) := by
    rw [List.replicate_succ, List.cons_append] at ha ⊢
    rcases hx with rfl | rfl
    · show some (Tok.run 42 (amongL _ [42]), amongL _ [42]) = _
      rw [ha]
    · show some (Tok.run 95 (amongL _ [95]), amongL _ [95]) = _
      rw [ha]
  unfold nextL
  rw [hb]
theorem all_runs (f a b : Nat) (x y : UInt8) (hxy : (x = 42 ∧ y = 95) ∨ (x = 95 ∧ y = 42)) (ha : 1 ≤ a) (hb : 1 ≤ b) : allL (f + 2) (List.replicate a x ++ List.replicate b y) = [.run x a, .run y b] := by
  obtain ⟨k, rfl⟩ : ∃ k, b = k + 1 := ⟨b - 1, by omega⟩
  have hr : List.replicate (k + 1) y = y :: List.replicate k y := List.replicate_succ
  rw [all_cons (f + 1) _ _ _ (by rw [hr]; simp) (next_run x a (List.replicate (k + 1) y) (by rcases hxy with h | h; exact Or.inl h.1; exact Or.inr h.1) ha (Or.inr ⟨y, _, hr, by rcases hxy with ⟨rfl, rfl⟩ | ⟨rfl, rfl⟩ <;> decide⟩))]
  rw [List.drop_left' (by simp)]
  have h2 := next_run y (k + 1) [] (by rcases hxy with h | h; exact Or.inr h.2; exact Or.inl h.2) hb (Or.inl rfl)
  rw [List.append_nil] at h2
  rw [all_cons f _ _ _ (by rw [hr]; simp) h2, List.drop_eq_nil_of_le (by simp), all_nil]

/-! ### words -/
theorem next_none (s : List UInt8) (h : beginsL s = none) : nextL s = (.word (s.take (plainTo s)), plainTo s) := by
  unfold nextL; rw [h]
theorem begins_plain (c : UInt8) (r : List UInt8) (h : specialL.contains c = false) : beginsL (c :: r) = none := by
  have n : ∀ k : UInt8, specialL.contains k = true → c ≠ k := fun k hk e => by rw [e, hk] at h; cases h
  rw [beginsL, if_neg (n 0 rfl), if_neg (n 92 rfl), if_neg (n 38 rfl), if_neg (n 96 rfl), if_neg (n 60 rfl), if_neg (by rintro (e | e); exact n 42 rfl e; exact n 95 rfl e), if_neg (n 33 rfl), if_neg (by rintro (e | e); exact n 91 rfl e; exact n 93 rfl e), if_neg (by rintro (e | e); exact n 32 rfl e; exact n 10 rfl e)]
theorem indexAny_none (chars : List UInt8) : ∀ (l : List UInt8), (∀ b ∈ l, chars.contains b = false) → Lib.indexAny l chars = -1
  | [], _ => rfl
  | b :: l, h => by
    show (if chars.contains b then (0 : Int) else if Lib.indexAny l chars == -1 then -1 else Lib.indexAny l chars + 1) = -1
    rw [h b (List.mem_cons_self ..), indexAny_none chars l (fun x hx => h x (List.mem_cons_of_mem _ hx))]
    rfl
theorem plain_all (c : UInt8) (r : List UInt8) (h : ∀ b ∈ r, specialL.contains b = false) : plainTo (c :: r) = (c :: r).length := by
  unfold plainTo
  rw [List.drop_succ_cons, List.drop_zero, indexAny_none specialL r h, if_neg (by omega)]
theorem plain_hit (c d : UInt8) (a r : List UInt8) (h : ∀ b ∈ a, specialL.contains b = false) (hd : specialL.contains d = true) : plainTo (c :: (a ++ d :: r)) = 1 + a.length := by
  unfold plainTo
  rw [List.drop_succ_cons, List.drop_zero, indexAny_skip specialL a _ h, indexAny_hit specialL d r hd]
  simp
theorem letter_plain {c : UInt8} (h : 97 ≤ c.toNat ∧ c.toNat ≤ 122) : specialL.contains c = false :=
  allB (p := fun c => 97 ≤ c.toNat ∧ c.toNat ≤ 122 → specialL.contains c = false) (by unfold AllB; decide +kernel) c h
theorem letter_in {set : List UInt8} (hs : AllB fun c => 97 ≤ c.toNat ∧ c.toNat ≤ 122 → set.contains c = true) {l : List UInt8} (h : Letters l) : ∀ x ∈ l, set.contains x = true := fun x hx => allB (p := fun c => 97 ≤ c.toNat ∧ c.toNat ≤ 122 → set.contains c = true) hs x (h x hx)

/-! ### TokenBreaks -/
theorem behindT_blanks (c : UInt8) (m : Nat) (d : UInt8) (r : List UInt8) (hd : ([32, 9] : List UInt8).contains d = false) : behindT (c :: (List.replicate m 32 ++ d :: r)) = 1 + m := by
  unfold behindT
  rw [List.drop_succ_cons, List.drop_zero, among_to [32, 9] _ _ _ (rep_in _ _ _ (by decide)) hd, List.length_replicate]
theorem next_b : nextL [98] = (.word [98], 1) := by decide +kernel
theorem next_break (n m : Nat) : nextL (List.replicate n 32 ++ 10 :: (List.replicate m 32 ++ [98])) = (.brk (decide (2 ≤ n)), n + (1 + m)) := by
  have ha : amongL (List.replicate n 32 ++ 10 :: (List.replicate m 32 ++ [98])) [32] = n := by
    rw [among_to [32] _ _ _ (rep_in _ _ _ (by decide)) (by decide), List.length_replicate]
  have hd : (List.replicate n (32 : UInt8) ++ 10 :: (List.replicate m 32 ++ [98])).drop n = 10 :: (List.replicate m 32 ++ [98]) := List.drop_left' (by simp)
  have hb : beginsL (List.replicate n 32 ++ 10 :: (List.replicate m 32 ++ [98])) = some (.brk (decide (2 ≤ n)), n + (1 + m)) := by
    obtain ⟨c, r, hcr, hc⟩ : ∃ (c : UInt8) (r : List UInt8), List.replicate n 32 ++ 10 :: (List.replicate m 32 ++ [98]) = c :: r ∧ (c = 32 ∨ c = 10) := by
      cases n with
      | zero => exact ⟨10, _, rfl, Or.inr rfl⟩
      | succ n => exact ⟨32, _, by rw [List.replicate_succ, List.cons_append], Or.inl rfl⟩
    rw [hcr] at ha hd ⊢
    have hbl : beginsL (c :: r) = (if ((c :: r).drop (amongL (c :: r) [32])).head? = some 10 then some (.brk (decide (2 ≤ amongL (c :: r) [32])), amongL (c :: r) [32] + behindT ((c :: r).drop (amongL (c :: r) [32])))
      else some (.word ((c :: r).take (amongL (c :: r) [32])), amongL (c :: r) [32])) := by
      rcases hc with rfl | rfl <;> rfl
    rw [hbl, ha, hd, List.head?_cons, if_pos rfl, behindT_blanks 10 m 98 [] (by decide)]
  unfold nextL
  rw [hb]
theorem next_slash (m : Nat) : nextL (92 :: 10 :: (List.replicate m 32 ++ [98])) = (.brk true, 1 + (1 + m)) := by
  have hb : beginsL (92 :: 10 :: (List.replicate m 32 ++ [98])) = some (.brk true, 1 + (1 + m)) := by
    rw [beginsL, if_neg (by decide), if_pos rfl]
    show (if asciiP 10 = true then some (Tok.word [10], 2) else if (10 : UInt8) = 10 then some (Tok.brk true, 1 + behindT (10 :: (List.replicate m 32 ++ [98]))) else none) = _
    rw [if_neg (by decide), if_pos rfl, behindT_blanks 10 m 98 [] (by decide)]
  unfold nextL
  rw [hb]
theorem next_a (d : UInt8) (r : List UInt8) (hd : specialL.contains d = true) : nextL (97 :: d :: r) = (.word [97], 1) := by
  rw [next_none _ (begins_plain 97 _ (by decide)), show (97 :: d :: r) = 97 :: ([] ++ d :: r) from rfl, plain_hit 97 d [] r (fun b hb => by cases hb) hd]
  rfl
/-- The text of the law, behind its letter. -/
def breakTail (slash : Bool) (n m : Nat) : List UInt8 := if slash then 92 :: 10 :: (List.replicate m 32 ++ [98]) else List.replicate n 32 ++ 10 :: (List.replicate m 32 ++ [98])
theorem all_breaks (f : Nat) (slash : Bool) (n m : Nat) : allL (f + 3) (97 :: breakTail slash n m) = [.word [97], .brk (slash || decide (2 ≤ n)), .word [98]] := by
  obtain ⟨d, r, hdr, hd⟩ : ∃ d r, breakTail slash n m = d :: r ∧ specialL.contains d = true := by
    unfold breakTail
    cases slash
    · cases n with
      | zero => exact ⟨10, _, rfl, by decide⟩
      | succ n => exact ⟨32, _, by rw [if_neg (by simp), List.replicate_succ, List.cons_append], by decide⟩
    · exact ⟨92, _, rfl, by decide⟩
  have h2 : nextL (breakTail slash n m) = (.brk (slash || decide (2 ≤ n)), (breakTail slash n m).length - 1) := by
    unfold breakTail
    cases slash
    · simp only [Bool.false_eq_true, if_false, Bool.false_or]
      rw [next_break]
      congr 1
      simp; omega
    · simp only [if_true, Bool.true_or]
      rw [next_slash]
      congr 1
      simp; omega
  have h3 : (breakTail slash n m).drop ((breakTail slash n m).length - 1) = [98] := by
    obtain ⟨x, hx⟩ : ∃ x : List UInt8, breakTail slash n m = x ++ [98] := by
      unfold breakTail
      cases slash
      · exact ⟨List.replicate n (32 : UInt8) ++ 10 :: List.replicate m 32, by simp⟩
      · exact ⟨92 :: 10 :: List.replicate m 32, by simp⟩
    rw [hx, List.drop_left' (by simp)]
  rw [all_cons (f + 2) _ (.word [97]) 1 (by simp) (by rw [hdr]; exact next_a d r hd), List.drop_succ_cons, List.drop_zero]
  rw [all_cons (f + 1) _ _ _ (by rw [hdr]; simp) h2, h3, all_cons f _ _ _ (by simp) next_b]
  rw [List.drop_eq_nil_of_le (by simp), all_nil]

/-! ### TokenSigns -/
theorem next_sign (c : UInt8) (h : asciiP c = true) : nextL [92, c] = (.word [c], 2) := by
  have hb : beginsL [92, c] = some (.word [c], 2) := by
    rw [beginsL, if_neg (by decide), if_pos rfl]
    show (if asciiP c = true then some (Tok.word [c], 2) else _) = _
    rw [if_pos h]
  unfold nextL
  rw [hb]
theorem next_nosign (c : UInt8) (h : asciiP c = false) (h10 : c ≠ 10) : ∃ r, (nextL [92, c]).1 = .word (92 :: r) ∧ r.length ≤ 1 := by
  have hb : beginsL [92, c] = none := by
    rw [beginsL, if_neg (by decide), if_pos rfl]
    show (if asciiP c = true then some (Tok.word [c], 2) else if c = 10 then _ else none) = _
    rw [if_neg (by rw [h]; simp), if_neg h10]
  rw [next_none _ hb]
  cases hs : specialL.contains c
  · rw [plain_all 92 [c] (fun b hb => by rw [List.mem_singleton.1 hb]; exact hs)]
    exact ⟨[c], rfl, by simp⟩
  · rw [show ([92, c] : List UInt8) = 92 :: ([] ++ c :: []) from rfl, plain_hit 92 c [] [] (fun b hb => by cases hb) hs]
    exact ⟨[], rfl, by simp⟩

end Go.Proofs.YtahljcbmckldhaaGreatDoor

/-
  What Group, Merge and Parse make of plain things: plain facts, no program in sight.
-/
namespace Go.Proofs.YtahljcbmckldhaaGreatDoor
open Go.RowKit
set_option linter.unusedVariables false
set_option linter.unusedSimpArgs false

/-! ### Group of nodes alone -/
theorem idle_zero {c : Piece} (h : c.it.sign = 0) : idle c = true := by simp [idle, h]
theorem getD_sign {p : List Piece} (h : ∀ x ∈ p, x.it.sign = 0) (i : Nat) : (p.getD i noPiece).it.sign = 0 := by
  by_cases hi : i < p.length
  · rw [getD_in _ _ _ hi]; exact h _ (List.getElem_mem hi)
  · rw [getD_out _ _ _ (by omega)]; rfl
theorem groupGo_plain : ∀ (f : Nat) (p : List Piece) (i : Nat), (∀ x ∈ p, x.it.sign = 0) → groupGo f p i = p
  | 0, p, i, h => rfl
  | f + 1, p, i, h => by
    rw [groupGo]
    split
    · rfl
    · unfold groupStep
      rw [if_pos (idle_zero (getD_sign h i))]
      exact groupGo_plain f p (i + 1) h
theorem group_plain (l : List IItem) (h : ∀ x ∈ l, x.sign = 0) : groupL l = mergeL (l.flatMap IItem.l) := by
  unfold groupL groupP
  have hp : ∀ x ∈ piecesOf l, x.it.sign = 0 := by
    intro x hx
    obtain ⟨y, hy, rfl⟩ := List.mem_map.1 hx
    exact h y hy
  rw [groupGo_plain _ _ _ hp]
  congr 1
  unfold piecesOf
  rw [List.flatMap_map]
  clear hp
  induction l with
  | nil => rfl
  | cons x l ih =>
    rw [List.flatMap_cons, List.flatMap_cons, ih fun y hy => h y (List.mem_cons_of_mem _ hy)]
    congr 1
    show (if x.sign = 0 then x.l else _) = x.l
    rw [if_pos (h x (List.mem_cons_self ..))]

/-! ### Merge -/
theorem merge_snoc (l : List Inl) (x : Inl) : mergeL (l ++ [x]) = mergeStep (mergeL l) x := by unfold mergeL; rw [List.foldl_append]; rfl
def Clean (x : Inl) : Prop := x.kind = 1 → x.url = [] ∧ x.title = []
theorem wordsOnly_clean {x : Inl} (h : Clean x) : wordsOnly x = x := by
  unfold wordsOnly
  split
  · rename_i hk
    obtain ⟨h1, h2⟩ := h hk
    cases x; simp_all
  · rfl
theorem apart_tail : ∀ (a b : List Inl), Apart (a ++ b) → Apart b
  | [], b, h => h
  | [w], [], h => trivial
  | [w], x :: b, h => h.2.2
  | w :: y :: a, b, h => apart_tail (y :: a) b h.2.2
theorem apart_first {x : Inl} {l : List Inl} (h : Apart (x :: l)) : x.kind = 1 → x.text ≠ [] := by
  cases l with
  | nil => exact h
  | cons y l => exact h.1
theorem apart_two : ∀ (a : List Inl) (w x : Inl) (b : List Inl), Apart (a ++ w :: x :: b) → ¬ (w.kind = 1 ∧ x.kind = 1 ∧ w.depth = x.depth)
  | a, w, x, b, h => (apart_tail a _ h).2.1
/-- What is apart already stays. -/
theorem merge_id : ∀ (l out : List Inl), Apart (out ++ l) → (∀ x ∈ l, Clean x) → l.foldl mergeStep out = out ++ l
  | [], out, _, _ => by simp
  | x :: l, out, h, hc => by
    have h1 := apart_first (apart_tail out _ h)
    have hw := wordsOnly_clean (hc x (List.mem_cons_self ..))
    have hs : mergeStep out x = out ++ [x] := by
      unfold mergeStep
      rw [if_neg (fun hh => h1 hh.1 hh.2), hw]
      split
      · rename_i t ht
        rw [if_neg]
        rintro ⟨k1, k2, k3⟩
        have hsp := last_split ht
        rw [hsp, List.append_assoc, List.singleton_append] at h
        exact apart_two _ _ _ _ h ⟨k2, k1, k3⟩
      · rfl
    rw [List.foldl_cons, hs, merge_id l (out ++ [x]) (by rw [List.append_assoc]; exact h) fun y hy => hc y (List.mem_cons_of_mem _ hy)]
    simp
theorem merge_apart {l : List Inl} (h : Apart l) (hc : ∀ x ∈ l, Clean x) : mergeL l = l := by
  have := merge_id l [] h hc
  exact this
theorem step_words (out : List Inl) (a b : List UInt8) (hb : b ≠ []) : mergeStep (out ++ [wordsI a]) (wordsI b) = out ++ [wordsI (a ++ b)] := by
  unfold mergeStep
  rw [if_neg (fun h => hb h.2), List.getLast?_concat]
  simp [wordsI]
theorem step_empty (out : List Inl) : mergeStep out (wordsI []) = out := by unfold mergeStep; rw [if_pos ⟨rfl, rfl⟩]
/-- Words side by side are one. -/
theorem merge_words : ∀ (ts : List (List UInt8)) (out : List Inl) (a : List UInt8), (ts.map wordsI).foldl mergeStep (out ++ [wordsI a]) = out ++ [wordsI (a ++ ts.flatten)]
  | [], out, a => by simp
  | b :: ts, out, a => by
    rw [List.map_cons, List.foldl_cons]
    by_cases hb : b = []
    · subst hb
      rw [step_empty, merge_words ts out a]; simp
    · rw [step_words out a b hb, merge_words ts out (a ++ b)]; simp
theorem merge_words0 : ∀ (ts : List (List UInt8)), ts.flatten ≠ [] → mergeL (ts.map wordsI) = [wordsI ts.flatten]
  | [], h => absurd rfl h
  | b :: ts, h => by
    unfold mergeL
    rw [List.map_cons, List.foldl_cons]
    by_cases hb : b = []
    · subst hb
      rw [step_empty]
      have := merge_words0 ts (by simpa using h)
      unfold mergeL at this
      simpa using this
    · have h1 : mergeStep [] (wordsI b) = [] ++ [wordsI b] := by
        unfold mergeStep
        rw [if_neg (fun hh => hb hh.2)]; rfl
      rw [h1, merge_words ts [] b]; simp

/-! ### Parse, step by step -/
theorem token_next (t : Option (List DefL)) (s : List UInt8) (ts : List AtomT) (P : List UInt8 → List Inl) (st : PSt) (k : Tok) (i next : Nat) : next ≤ (tokenL t s ts P st k i next).2 := by
  unfold tokenL
  split <;> first | exact Nat.le_refl _ | skip
  split
  · exact Nat.le_add_right _ _
  · exact Nat.le_refl _
theorem parse_end (f : Nat) (t : Option (List DefL)) (s : List UInt8) (ts : List AtomT) (P : List UInt8 → List Inl) (st : PSt) (i : Nat) (h : s.length ≤ i) : parseGo f t s ts P st i = st := by
  cases f with
  | zero => rfl
  | succ f => rw [parseGo, if_pos h]
theorem parse_fuel (t : Option (List DefL)) (s : List UInt8) (ts : List AtomT) (P : List UInt8 → List Inl) : ∀ (f g : Nat) (st : PSt) (i : Nat), s.length < i + f → s.length < i + g → parseGo f t s ts P st i = parseGo g t s ts P st i
  | 0, g, st, i, hf, hg => by rw [parse_end g t s ts P st i (by omega)]; rfl
  | f + 1, 0, st, i, hf, hg => by rw [parse_end (f + 1) t s ts P st i (by omega)]; rfl
  | f + 1, g + 1, st, i, hf, hg => by
    rw [parseGo, parseGo]
    split
    · rfl
    · rename_i h
      have hne : s.drop i ≠ [] := by intro h0; have := congrArg List.length h0; simp at this; omega
      have h1 := (next_le (s.drop i) hne).1
      have h2 := token_next t s ts P st (nextL (s.drop i)).1 i (i + (nextL (s.drop i)).2)
      exact parse_fuel t s ts P f g _ _ (by omega) (by omega)
/-- The parse from a place on. -/
def parseFrom (t : Option (List DefL)) (s : List UInt8) (ts : List AtomT) (P : List UInt8 → List Inl) (st : PSt) (i : Nat) : PSt := parseGo (s.length + 1) t s ts P st i
theorem from_end (t : Option (List DefL)) (s : List UInt8) (ts : List AtomT) (P : List UInt8 → List Inl) (st : PSt) (i : Nat) (h : s.length ≤ i) : parseFrom t s ts P st i = st := parse_end _ t s ts P st i h
theorem from_step (t : Option (List DefL)) (s : List UInt8) (ts : List AtomT) (P : List UInt8 → List Inl) (st st' : PSt) (i j n : Nat) (k : Tok) (hi : i < s.length) (hn : nextL (s.drop i) = (k, n)) (ht : tokenL t s ts P st k i (i + n) = (st', j)) :
    parseFrom t s ts P st i = parseFrom t s ts P st' j := by
  unfold parseFrom
  have hne : s.drop i ≠ [] := by intro h0; have := congrArg List.length h0; simp at this; omega
  have h1 := (next_le (s.drop i) hne).1
  rw [hn] at h1
  have h2 := token_next t s ts P st k i (i + n)
  rw [ht] at h2
  rw [parseGo, if_neg (by omega), hn]
  simp only
  rw [ht]
  exact parse_fuel t s ts P _ _ _ _ (by simp at h1 h2; omega) (by simp at h1 h2; omega)
theorem parse_from (t : Option (List DefL)) (s : List UInt8) (ts : List AtomT) (P : List UInt8 → List Inl) : parseWith t s ts P = groupL (parseFrom t s ts P ⟨[], []⟩ 0).items := rfl

/-- A token that is no bracket, at the head of what is left: 's = a ++ b', and the token is what b begins with. -/
theorem from_app (t : Option (List DefL)) (ts : List AtomT) (P : List UInt8 → List Inl) (st st' : PSt) (a b c : List UInt8) (k : Tok) (hb : b ≠ []) (hn : nextL (b ++ c) = (k, b.length))
    (ht : tokenL t (a ++ (b ++ c)) ts P st k a.length (a.length + b.length) = (st', (a ++ b).length)) :
    parseFrom t (a ++ (b ++ c)) ts P st a.length = parseFrom t (a ++ (b ++ c)) ts P st' (a ++ b).length := by
  have := List.length_pos_iff.2 hb
  exact from_step t _ ts P st st' _ _ b.length k (by simp; omega) (by rw [List.drop_left]; exact hn) ht

/-! ### words -/
theorem next_plainS (b c : List UInt8) (hb : b ≠ []) (hp : ∀ x ∈ b, specialL.contains x = false) (hc : c = [] ∨ ∃ d r, c = d :: r ∧ specialL.contains d = true) : nextL (b ++ c) = (.word b, b.length) := by
  cases b with
  | nil => exact absurd rfl hb
  | cons x b =>
    have hx := hp x (List.mem_cons_self ..)
    have hr : ∀ y ∈ b, specialL.contains y = false := fun y hy => hp y (List.mem_cons_of_mem _ hy)
    rw [List.cons_append, next_none _ (begins_plain x _ hx)]
    rcases hc with rfl | ⟨d, r, rfl, hd⟩
    · rw [List.append_nil, plain_all x b hr, List.take_length]
    · rw [plain_hit x d b r hr hd]
      simp only [List.length_cons, Nat.add_comm 1 b.length, List.take_succ_cons, List.take_left]
/-- A word in the midst of a text. -/
theorem from_word (t : Option (List DefL)) (ts : List AtomT) (P : List UInt8 → List Inl) (st : PSt) (a b c : List UInt8) (hb : b ≠ []) (hp : ∀ x ∈ b, specialL.contains x = false) (hc : c = [] ∨ ∃ d r, c = d :: r ∧ specialL.contains d = true) :
    parseFrom t (a ++ (b ++ c)) ts P st a.length = parseFrom t (a ++ (b ++ c)) ts P (st.put [wordsI b]) (a ++ b).length :=
  from_app t ts P st _ a b c (.word b) hb (next_plainS b c hb hp hc) (by show (_, _) = _; rw [List.length_append])

/-! ### breaks -/
theorem next_brk (n m : Nat) (d : UInt8) (r : List UInt8) (hd : ([32, 9] : List UInt8).contains d = false) : nextL (List.replicate n 32 ++ 10 :: (List.replicate m 32 ++ d :: r)) = (.brk (decide (2 ≤ n)), n + (1 + m)) := by
  have ha : amongL (List.replicate n 32 ++ 10 :: (List.replicate m 32 ++ d :: r)) [32] = n := by
    rw [among_to [32] _ _ _ (rep_in _ _ _ (by decide)) (by decide), List.length_replicate]
  have hdr : (List.replicate n (32 : UInt8) ++ 10 :: (List.replicate m 32 ++ d :: r)).drop n = 10 :: (List.replicate m 32 ++ d :: r) := List.drop_left' (by simp)
  have hb : beginsL (List.replicate n 32 ++ 10 :: (List.replicate m 32 ++ d :: r)) = some (.brk (decide (2 ≤ n)), n + (1 + m)) := by
    obtain ⟨c, q, hcr, hc⟩ : ∃ (c : UInt8) (q : List UInt8), List.replicate n 32 ++ 10 :: (List.replicate m 32 ++ d :: r) = c :: q ∧ (c = 32 ∨ c = 10) := by
      cases n with
      | zero => exact ⟨10, _, rfl, Or.inr rfl⟩
      | succ n => exact ⟨32, _, by rw [List.replicate_succ, List.cons_append], Or.inl rfl⟩
    rw [hcr] at ha hdr ⊢
    have hbl : beginsL (c :: q) = (if ((c :: q).drop (amongL (c :: q) [32])).head? = some 10 then some (.brk (decide (2 ≤ amongL (c :: q) [32])), amongL (c :: q) [32] + behindT ((c :: q).drop (amongL (c :: q) [32])))
      else some (.word ((c :: q).take (amongL (c :: q) [32])), amongL (c :: q) [32])) := by
      rcases hc with rfl | rfl <;> rfl
    rw [hbl, ha, hdr, List.head?_cons, if_pos rfl, behindT_blanks 10 m d r hd]
  unfold nextL
  rw [hb]

end Go.Proofs.YtahljcbmckldhaaGreatDoor
