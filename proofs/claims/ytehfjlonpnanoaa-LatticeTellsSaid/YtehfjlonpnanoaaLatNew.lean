/-
  lattice.New at pairs that are in range: the lattice of the pairs, or none where they are none.
-/
import Derived.Test.YtehfjlonpnanoaaRows
import Derived.Test.YtehfjlonpnanoaaLatBounds
import Derived.Test.YtehfjlonpnanoaaLatMemS
import Derived.Outline
import Derived.Deep.QuietTactic
import Derived.BigQuiet
import Derived.RegionTactic
import Derived.BigRegion
import Derived.Deep.RegionWith
import Derived.WalkLawsBesides
import Derived.Lib.Hide
import Derived.Deep.DeepCutAuto
import Derived.Deep.CutBlock
namespace Go.Proofs.Ytehfjlonpnanoaa
open Go.RowKit

theorem Try.infoU64 : (Try.prog.info? 46).map (fun i => (i.zero, i.size, i.bytes)) = some (some (.int .u64 0), 1, 8) := by kernel_rfl

theorem run_mkU64 (n : Nat) (hn : n ≤ 64) (w : World) : (Instr.makeSlice 43 (.int .i64 n) (.int .i64 n)).run Try.prog w = .ok (.slice (some ⟨w.heap.size, 0, none⟩) n n) (w.alloc (.cells (zrow n) 46)) := by
  obtain ⟨i0, hi, hz0, hz1, hz2⟩ := info_parts Try.infoU64
  have := run_make (P := Try.prog) w 43 46 i0 (.int .u64 0) Try.underlying43 hi hz0 .i64 .i64 n n (by omega) (by omega) (by rw [hz2]; omega) (by omega)
  rw [hz1, Nat.mul_one] at this
  simp only [Int.toNat_natCast, Value.cells] at this
  rw [zrow_made] at this
  exact this

def joinF (n : Nat) (U : List Nat) (a b : Nat) : Int := foundTo (fun c => U.getD c 0) (U.getD a 0 &&& U.getD b 0) n

structure LatAt (B : Nat) (w : World) (b n : Nat) (U D : List Nat) : Prop where
  lt : b < w.heap.size
  ge : B ≤ b
  up : ∃ bu, w.cell? ⟨b, 0, none⟩ = some (.slice (some ⟨bu, 0, none⟩) n n) ∧ bu < w.heap.size ∧ ∀ i, i < n → w.cell? ⟨bu, i, none⟩ = some (.int .u64 (U.getD i 0 : Nat))
  join : ∃ v, w.cell? ⟨b, 2, none⟩ = some v ∧ MatAt B w v n (joinF n U)
  meet : ∃ v, w.cell? ⟨b, 3, none⟩ = some v ∧ MatAt B w v n (joinF n D)
  small : Small n U

def NewPost (W0 : World) (n : Nat) (U D : List Nat) (e : Ending) (w' : World) : Prop :=
  ∃ p c, e = .returned (.tuple #[.pointer p, .int .i64 c]) ∧ Below W0.heap.size W0 w' ∧
    ((c = 0 ∧ ∃ b, p = some ⟨b, 0, none⟩ ∧ LatAt W0.heap.size w' b n U D ∧ ∀ x y, x < n → y < n → ¬ Bad U x y ∧ 0 ≤ joinF n U x y ∧ 0 ≤ joinF n D x y) ∨
     (c = 1 ∧ p = none ∧ ∃ x y, x < n ∧ y < n ∧ (Bad U x y ∨ joinF n U x y < 0 ∨ joinF n D x y < 0)))

def upOf (n m : Nat) (P : Nat → Int × Int) : List Nat := cloUp n (prUp n P m) n
def downOf (n m : Nat) (P : Nat → Int × Int) : List Nat := dnAll n (upOf n m P) n

set_option maxRecDepth 100000 in
set_option maxHeartbeats 4000000 in
theorem new_any (ao : Option Addr) (bp off m cp n : Nat) (P : Nat → Int × Int) (W0 : World) (hn0 : 0 < n) (hn : n ≤ 64) (hm : m ≤ 1000)
    (hP : ∀ i, i < m → W0.cell? ⟨bp, off + i * 2, none⟩ = some (.int .i64 (P i).1) ∧ W0.cell? ⟨bp, off + i * 2 + 1, none⟩ = some (.int .i64 (P i).2))
    (hao : 0 < m → ao = some ⟨bp, off, none⟩) (hbp0 : 0 < m → bp < W0.heap.size) (hin : ∀ i, i < m → 0 ≤ (P i).1 ∧ (P i).1 < n ∧ 0 ≤ (P i).2 ∧ (P i).2 < n) :
    Calls Try.prog 5 #[.int .i64 n, .slice ao m cp] W0 (NewPost W0 n (upOf n m P) (downOf n m P)) := by
  have hmk := run_mkU64 n hn
  have HA := Lib.hid hao
  have HB := Lib.hid hbp0
  clear hao hbp0
  have hn1 : (1 : Int) ≤ n := by omega
  have hn2 : (n : Int) ≤ 64 := by omega
  go_enter Try.func5, Try.ntmps5
  go_upto_block 0 with (fail)
  go_cut [] (fun w => Below W0.heap.size W0 w)
  case first =>
    clear hmk
    go_wp2
    go_loopw [25] (fun u25 wr => ∃ k : Nat, k ≤ m ∧ u25 = .int .i64 k ∧ Below W0.heap.size W0 wr) (fun u25 _ => m - (intOf u25).toNat)
    case atStart => exact ⟨0, Nat.zero_le _, rfl, Below.refl _ _⟩
    case round =>
      obtain ⟨k, hk, rfl, hB⟩ := hrel
      by_cases hlt : k < m
      · obtain rfl : ao = some ⟨bp, off, none⟩ := HA.out (by omega)
        have hbp := HB.out (by omega)
        obtain ⟨h0, h1⟩ := hP k hlt
        obtain ⟨i0, i1, i2, i3⟩ := hin k hlt
        have h0' := (hB.cell (p := ⟨bp, off + k * 2, none⟩) hbp).trans h0
        have h1' := (hB.cell (p := ⟨bp, off + k * 2 + 1, none⟩) hbp).trans h1
        clear h0 h1 hP hin
        go_wp2
        all_goals
          go_roundw
          case rel => exact ⟨k + 1, by omega, by go_num, hB.alloc hB.size _⟩
          case measure => simp [intOf]; omega
      · obtain rfl : m = k := by omega
        go_wp2
        go_meet
        case rel => exact hB
  case rest =>
    have hBA := hcut
    clear hcut
    go_wp2
    go_cut [8] (fun u8 w => ∃ bl bu bd, u8 = .pointer (some ⟨bl, 0, none⟩) ∧ LatS W0 w bl bu bd n (.slice none 0 0) (.slice none 0 0) (idUp n 0) (List.replicate n 0))
    case first =>
      go_region
      all_goals
        go_wp2
        go_meet
        case rel => first | exact ⟨_, _, _, rfl, LatS.made hBA (.inl ⟨rfl, rfl⟩)⟩ | exact ⟨_, _, _, rfl, LatS.made hBA (.inr ⟨rfl, rfl⟩)⟩
    case rest =>
      obtain ⟨bl, bu, bd, rfl, hS⟩ := hcut
      clear hmk hBA
      go_upto_block 2 with (fail)
      go_cut [] (fun w => LatS W0 w bl bu bd n (.slice none 0 0) (.slice none 0 0) (idUp n n) (List.replicate n 0))
      case first =>
        clear hP hin
        go_wp2
        go_loopw [52] (fun u52 wr => ∃ k : Nat, k ≤ n ∧ u52 = .int .i64 k ∧ LatS W0 wr bl bu bd n (.slice none 0 0) (.slice none 0 0) (idUp n k) (List.replicate n 0)) (fun u52 _ => n - (intOf u52).toNat)
        case atStart => exact ⟨0, Nat.zero_le _, rfl, hS⟩
        case round =>
          clear hS
          obtain ⟨k, hk, rfl, hS⟩ := hrel
          by_cases hlt : k < n
          · have hw := wrap_p2 k (by omega)
            have f0 := hS.cell0
            have f1 := hS.uAt hlt
            have f2 := hS.uFree k
            go_wp2
            go_region
            go_wp2
            go_roundw
            case rel =>
              have := (hS.setU k (p2 k) (by rw [idUp_succ n k hlt]; exact small_idUp _ _ hn)).drew
              rw [idUp_succ n k hlt] at this
              exact ⟨k + 1, by omega, by go_num, this⟩
            case measure => simp [intOf]; omega
          · obtain rfl : n = k := by omega
            go_wp2
            go_meet
            case rel => exact hS
      case rest =>
        clear hS
        have hS := hcut
        clear hcut
        go_upto_block 4 with (fail)
        go_cut [] (fun w => LatS W0 w bl bu bd n (.slice none 0 0) (.slice none 0 0) (prUp n P m) (List.replicate n 0))
        case first =>
          go_wp2
          go_loopw [66] (fun u66 wr => ∃ k : Nat, k ≤ m ∧ u66 = .int .i64 k ∧ LatS W0 wr bl bu bd n (.slice none 0 0) (.slice none 0 0) (prUp n P k) (List.replicate n 0)) (fun u66 _ => m - (intOf u66).toNat)
          case atStart => exact ⟨0, Nat.zero_le _, rfl, hS⟩
          case round =>
            clear hS
            obtain ⟨k, hk, rfl, hS⟩ := hrel
            by_cases hlt : k < m
            · obtain rfl : ao = some ⟨bp, off, none⟩ := HA.out (by omega)
              have hbp := HB.out (by omega)
              obtain ⟨h0, h1⟩ := hP k hlt
              obtain ⟨i0, i1, i2, i3⟩ := hin k hlt
              have h0' := (hS.below.cell (p := ⟨bp, off + k * 2, none⟩) hbp).trans h0
              have h1' := (hS.below.cell (p := ⟨bp, off + k * 2 + 1, none⟩) hbp).trans h1
              have hw := wrap_p2 (P k).2.toNat (by omega)
              have hS1 := hS.alloc (.cells #[.int .i64 (P k).1, .int .i64 (P k).2] 42)
              have f0 := hS1.cell0
              have f1 := hS1.uAt (i := (P k).1.toNat) (by omega)
              have f2 := hS1.uFree (P k).1.toNat
              have hsm := hS.sU
              have hT := small_orAt hsm (P k).1.toNat (p2 (P k).2.toNat) (p2_lt (by omega))
              obtain ⟨x, hx⟩ : ∃ x, x = (prUp n P k).getD (P k).1.toNat 0 := ⟨_, rfl⟩
              rw [← hx] at f1
              have hor := or_w64 x (p2 (P k).2.toNat) (by rw [hx]; exact getD_lt_w64 hsm _) (p2_lt (by omega))
              have HX := Lib.hid hx
              have Q0 := Lib.hid hP
              have Q1 := Lib.hid hin
              clear h0 h1 hP hin hx
              have hz := hS.below.size
              go_wp2
              go_region
              go_wp2
              go_roundw
              case rel =>
                have := (hS1.setU (P k).1.toNat (x ||| p2 (P k).2.toNat) (by rw [HX.out]; exact hT)).drew
                have e : (prUp n P k).set (P k).1.toNat (x ||| p2 (P k).2.toNat) = prUp n P (k + 1) := by rw [HX.out]; rfl
                rw [e] at this
                exact ⟨k + 1, by omega, by go_num, this⟩
              case measure => simp [intOf]; omega
            · obtain rfl : m = k := by omega
              go_wp2
              go_meet
              case rel => exact hS
        case rest =>
          clear hS
          have hS := hcut
          clear hcut hP hin
          go_upto_block 6 with (fail)
          go_cut [] (fun w => LatS W0 w bl bu bd n (.slice none 0 0) (.slice none 0 0) (upOf n m P) (List.replicate n 0))
          case first =>
            go_wp2
            go_loopw [85] (fun u85 wr => ∃ k : Nat, k ≤ n ∧ u85 = .int .i64 k ∧ LatS W0 wr bl bu bd n (.slice none 0 0) (.slice none 0 0) (cloUp n (prUp n P m) k) (List.replicate n 0)) (fun u85 _ => n - (intOf u85).toNat)
            case atStart => exact ⟨0, Nat.zero_le _, rfl, hS⟩
            case round =>
              clear hS
              obtain ⟨k, hk, rfl, hS⟩ := hrel
              by_cases hlt : k < n
              · go_wp2
                obtain ⟨wo, rfl⟩ : ∃ wo : World, wo = wr := ⟨_, rfl⟩
                go_loopw [89] (fun u89 wr => ∃ i : Nat, i ≤ n ∧ u89 = .int .i64 i ∧ LatS W0 wr bl bu bd n (.slice none 0 0) (.slice none 0 0) (inUp k (cloUp n (prUp n P m) k) i) (List.replicate n 0)) (fun u89 _ => n - (intOf u89).toNat)
                case atStart => exact ⟨0, Nat.zero_le _, rfl, hS⟩
                case round =>
                  clear hS
                  obtain ⟨i, hi, rfl, hS⟩ := hrel
                  by_cases hli : i < n
                  · have f0 := hS.cell0
                    have f1 := hS.uAt hli
                    have f1' := hS.uAt hlt
                    have f2 := hS.uFree i
                    have hsm := hS.sU
                    obtain ⟨V, hV⟩ : ∃ V, V = inUp k (cloUp n (prUp n P m) k) i := ⟨_, rfl⟩
                    rw [← hV] at f1 f1' hsm hS
                    obtain ⟨x, hx⟩ : ∃ x, x = V.getD i 0 := ⟨_, rfl⟩
                    obtain ⟨y, hy⟩ : ∃ y, y = V.getD k 0 := ⟨_, rfl⟩
                    rw [← hx] at f1
                    rw [← hy] at f1'
                    have hx64 : x < W64 := by rw [hx]; exact getD_lt_w64 hsm _
                    have hy64 : y < W64 := by rw [hy]; exact getD_lt_w64 hsm _
                    have hor := or_w64 x y hx64 hy64
                    have hT := small_orAt hsm i y hy64
                    have HV := Lib.hid hV
                    have HX := Lib.hid hx
                    have HY := Lib.hid hy
                    clear hV hx hy
                    by_cases hbit : x.testBit k = true
                    · have HE := Lib.hid (show V.set i (x ||| y) = inUp k (cloUp n (prUp n P m) k) (i + 1) from by
                        show _ = inStep k i _
                        rw [← HV.out]; unfold inStep; rw [← HX.out, if_pos hbit, HX.out, ← HY.out]; rfl)
                      have hb := gt_bit x k hx64 hbit
                      clear hbit
                      go_wp2
                      go_region
                      go_wp2
                      go_roundw
                      case rel =>
                        have := (hS.setU i (x ||| y) (by rw [HX.out]; exact hT)).drew
                        rw [HE.out] at this
                        exact ⟨i + 1, by omega, by go_num, this⟩
                      case measure => simp [intOf]; omega
                    · have HE := Lib.hid (show V = inUp k (cloUp n (prUp n P m) k) (i + 1) from by
                        show _ = inStep k i _
                        rw [← HV.out]; unfold inStep; rw [← HX.out, if_neg hbit])
                      have hb := not_gt_bit x k hx64 (by simpa using hbit)
                      clear hbit
                      go_wp2
                      go_roundw
                      case rel =>
                        rw [HE.out] at hS
                        exact ⟨i + 1, by omega, by go_num, hS⟩
                      case measure => simp [intOf]; omega
                  · obtain rfl : n = i := by omega
                    go_wp2
                    go_roundw
                    case rel => exact ⟨k + 1, by omega, by go_num, hS⟩
                    case measure => simp [intOf]; omega
              · obtain rfl : n = k := by omega
                go_wp2
                go_meet
                case rel => exact hS
          case rest =>
            clear hS
            have hS := hcut
            clear hcut
            go_upto_block 10 with (fail)
            obtain ⟨U, hU⟩ : ∃ U, U = upOf n m P := ⟨_, rfl⟩
            rw [← hU] at hS
            have HD := Lib.hid (show downOf n m P = dnAll n U n from by rw [hU]; rfl)
            have HU := Lib.hid hU
            clear hU
            have hsm := hS.sU
            go_cut [] (fun w => LatS W0 w bl bu bd n (.slice none 0 0) (.slice none 0 0) U (dnAll n U n) ∧ ∀ x y, x < n → y < n → ¬ Bad U x y)
            case first =>
              go_wp2
              go_loopw [122] (fun u122 wr => ∃ a : Nat, a ≤ n ∧ u122 = .int .i64 a ∧ LatS W0 wr bl bu bd n (.slice none 0 0) (.slice none 0 0) U (dnAll n U a) ∧ ∀ x y, x < a → y < n → ¬ Bad U x y) (fun u122 _ => n - (intOf u122).toNat)
              case atStart => exact ⟨0, Nat.zero_le _, rfl, hS, fun x y hx => absurd hx (by omega)⟩
              case round =>
                clear hS
                obtain ⟨a, ha, rfl, hS, hno⟩ := hrel
                have HN := Lib.hid hno
                clear hno
                by_cases hlt : a < n
                · go_wp2
                  obtain ⟨wo, rfl⟩ : ∃ wo : World, wo = wr := ⟨_, rfl⟩
                  go_loopw [126] (fun u126 wr => ∃ b : Nat, b ≤ n ∧ u126 = .int .i64 b ∧ LatS W0 wr bl bu bd n (.slice none 0 0) (.slice none 0 0) U (dnRow U a (dnAll n U a) b) ∧ ∀ y, y < b → ¬ Bad U a y) (fun u126 _ => n - (intOf u126).toNat)
                  case atStart => exact ⟨0, Nat.zero_le _, rfl, hS, fun y hy => absurd hy (by omega)⟩
                  case round =>
                    clear hS
                    obtain ⟨b, hb, rfl, hS, hno⟩ := hrel
                    have HM := Lib.hid hno
                    clear hno
                    by_cases hlb : b < n
                    · have f0 := hS.cell0
                      have f1 := hS.uAt hlt
                      have f1' := hS.uAt hlb
                      have g0 := hS.cell1
                      have g1 := hS.dAt hlb
                      have g2 := hS.dFree b
                      have hsD := hS.sD
                      obtain ⟨V, hV⟩ : ∃ V, V = dnRow U a (dnAll n U a) b := ⟨_, rfl⟩
                      rw [← hV] at g1 hsD hS
                      obtain ⟨x, hx⟩ : ∃ x, x = U.getD a 0 := ⟨_, rfl⟩
                      obtain ⟨y, hy⟩ : ∃ y, y = U.getD b 0 := ⟨_, rfl⟩
                      obtain ⟨z, hz⟩ : ∃ z, z = V.getD b 0 := ⟨_, rfl⟩
                      rw [← hx] at f1
                      rw [← hy] at f1'
                      rw [← hz] at g1
                      have hx64 : x < W64 := by rw [hx]; exact getD_lt_w64 hsm _
                      have hy64 : y < W64 := by rw [hy]; exact getD_lt_w64 hsm _
                      have hz64 : z < W64 := by rw [hz]; exact getD_lt_w64 hsD _
                      have hw := wrap_p2 a (by omega)
                      have hor := or_w64 z (p2 a) hz64 (p2_lt (by omega))
                      have hT := small_orAt hsD b (p2 a) (p2_lt (by omega))
                      have HV := Lib.hid hV
                      have HX := Lib.hid hx
                      have HY := Lib.hid hy
                      have HZ := Lib.hid hz
                      clear hV hx hy hz
                      by_cases hbit : x.testBit b = true
                      · have HE := Lib.hid (show V.set b (z ||| p2 a) = dnRow U a (dnAll n U a) (b + 1) from by
                          show _ = dnStep U a b _
                          rw [← HV.out]; unfold dnStep; rw [← HX.out, if_pos hbit, HZ.out]; rfl)
                        have hq0 : (bits BinOp.and IntKind.u64 ((x : Int) / 2 ^ b) 1 == 0) = false := by rw [leq_bit0 x b hx64, hbit]; rfl
                        have hS2 := (hS.setD b (z ||| p2 a) (by rw [HZ.out]; exact hT)).drew
                        rw [HE.out] at hS2
                        have p0 := hS2.cell0
                        have p1 := hS2.uAt hlb
                        rw [← HY.out] at p1
                        by_cases hab : a = b
                        · have hq1 : ((a : Int) != (b : Int)) = false := by simp [hab]
                          have HK := Lib.hid (show ∀ y, y < b + 1 → ¬ Bad U a y from fun y hy => by
                            by_cases e : y = b
                            · intro hbad; exact hbad.2.1 (by omega)
                            · exact HM.out y (by omega))
                          clear hab hbit
                          go_wp2
                          go_region
                          go_wp2
                          go_roundw
                          case rel => exact ⟨b + 1, by omega, by go_num, hS2, HK.out⟩
                          case measure => simp [intOf]; omega
                        · have hq1 : ((a : Int) != (b : Int)) = true := by simp; omega
                          by_cases hbit2 : y.testBit a = true
                          · have hq2 := gt_bit y a hy64 hbit2
                            have HK := Lib.hid (show Bad U a b from ⟨by rw [← HX.out]; exact hbit, hab, by rw [← HY.out]; exact hbit2⟩)
                            clear hab hbit hbit2
                            go_wp2
                            go_region
                            go_wp2
                            go_ret2
                            exact ⟨none, 1, rfl, hS2.below, .inr ⟨rfl, rfl, a, b, hlt, hlb, .inl (by rw [← HU.out]; exact HK.out)⟩⟩
                          · have hq2 := not_gt_bit y a hy64 (by simpa using hbit2)
                            have HK := Lib.hid (show ∀ y, y < b + 1 → ¬ Bad U a y from fun y' hy' => by
                              by_cases e : y' = b
                              · subst e; intro hbad; exact hbit2 (by rw [HY.out]; exact hbad.2.2)
                              · exact HM.out y' (by omega))
                            clear hab hbit hbit2
                            go_wp2
                            go_region
                            go_wp2
                            go_roundw
                            case rel => exact ⟨b + 1, by omega, by go_num, hS2, HK.out⟩
                            case measure => simp [intOf]; omega
                      · have HE := Lib.hid (show V = dnRow U a (dnAll n U a) (b + 1) from by
                          show _ = dnStep U a b _
                          rw [← HV.out]; unfold dnStep; rw [← HX.out, if_neg hbit])
                        have hq0 : (bits BinOp.and IntKind.u64 ((x : Int) / 2 ^ b) 1 == 0) = true := by rw [leq_bit0 x b hx64]; simpa using hbit
                        have HK := Lib.hid (show ∀ y, y < b + 1 → ¬ Bad U a y from fun y' hy' => by
                          by_cases e : y' = b
                          · subst e; intro hbad; exact hbit (by rw [HX.out]; exact hbad.1)
                          · exact HM.out y' (by omega))
                        clear hbit
                        go_wp2
                        go_roundw
                        case rel =>
                          rw [HE.out] at hS
                          exact ⟨b + 1, by omega, by go_num, hS, HK.out⟩
                        case measure => simp [intOf]; omega
                    · obtain rfl : n = b := by omega
                      go_wp2
                      go_roundw
                      case rel => exact ⟨a + 1, by omega, by go_num, hS, fun x y hx hy => by
                        by_cases e : x = a
                        · subst e; exact HM.out y hy
                        · exact HN.out x y (by omega) hy⟩
                      case measure => simp [intOf]; omega
                · obtain rfl : n = a := by omega
                  go_wp2
                  go_meet
                  case rel => exact ⟨hS, HN.out⟩
            case rest =>
              clear hS
              obtain ⟨hS, hno⟩ := hcut
              have HN := Lib.hid hno
              clear hno
              obtain ⟨D, hD⟩ : ∃ D, D = dnAll n U n := ⟨_, rfl⟩
              rw [← hD] at hS
              have HD' := Lib.hid (HD.out.trans hD.symm)
              clear hD HD
              go_upto_region 43 with (fail)
              go_cut [16] (fun u16 w => ∃ v ok B1, u16 = .bool ok ∧ LatS W0 w bl bu bd n v (.slice none 0 0) U D ∧ bl < B1 ∧ W0.heap.size ≤ B1 ∧ (ok = true → MatAt B1 w v n (joinF n U) ∧ ∀ a b, a < n → b < n → 0 ≤ joinF n U a b) ∧ (ok = false → ∃ a b, a < n ∧ b < n ∧ joinF n U a b < 0))
              case first =>
                have f0 := hS.cell0
                have hSd := hS.drew
                have hl := lt_of_block hSd.hl
                have hu := lt_of_block hSd.hu
                have hcall := bounds_any bu n bu n n (fun i => U.getD i 0) (fun i => U.getD i 0) wc.drew hn0 hn (fun i hi => hSd.uAt hi) (fun i hi => hSd.uAt hi) hu hu (fun i _ => getD_lt_w64 hsm i)
                have HC := Lib.hid hcall
                clear hcall
                go_region_with (go_at_call 14; refine (HC.out).mono ?_; rintro e w' ⟨vad, vl, vc, ok, rfl, hbel, hyes, hno⟩; have hS' := hSd.of_below hbel; have c2 := hS'.cell2; have c3 := hS'.free 2)
                all_goals
                  go_wp2
                  go_meet
                  case rel => exact ⟨_, ok, wc.drew.heap.size, rfl, hS'.setJ _, hl, hSd.below.size, fun h => ⟨(hyes h).1.setCell hl _, (hyes h).2⟩, hno⟩
              case rest =>
                clear hS
                obtain ⟨vj, ok, B1, rfl, hS, hl1, hB1, hyes, hno⟩ := hcut
                cases ok
                case false =>
                  have HM := Lib.hid (hno rfl)
                  clear hyes hno
                  go_wp2
                  go_ret2
                  obtain ⟨x, y, hx, hy, hxy⟩ := HM.out
                  exact ⟨none, 1, rfl, hS.below, .inr ⟨rfl, rfl, x, y, hx, hy, .inr (.inl (by rw [← HU.out]; exact hxy))⟩⟩
                case true =>
                  have HM := Lib.hid (hyes rfl)
                  clear hyes hno
                  go_upto_region 46 with (fail)
                  go_cut [16] (fun u16 w => ∃ vm ok, u16 = .bool ok ∧ LatS W0 w bl bu bd n vj vm U D ∧ MatAt B1 w vj n (joinF n U) ∧ (ok = true → MatAt W0.heap.size w vm n (joinF n D) ∧ ∀ a b, a < n → b < n → 0 ≤ joinF n D a b) ∧ (ok = false → ∃ a b, a < n ∧ b < n ∧ joinF n D a b < 0))
                  case first =>
                    have f0 := hS.cell1
                    have hSd := hS.drew
                    have hsD := hS.sD
                    have hl := lt_of_block hSd.hl
                    have hu := lt_of_block hSd.hd
                    have hcall := bounds_any bd n bd n n (fun i => D.getD i 0) (fun i => D.getD i 0) wc.drew hn0 hn (fun i hi => hSd.dAt hi) (fun i hi => hSd.dAt hi) hu hu (fun i _ => getD_lt_w64 hsD i)
                    have HC := Lib.hid hcall
                    clear hcall
                    go_region_with (go_at_call 14; refine (HC.out).mono ?_; rintro e w' ⟨vad, vl, vc, ok, rfl, hbel, hyes, hno⟩; have hS' := hSd.of_below hbel; have c2 := hS'.cell3; have c3 := hS'.free 3)
                    all_goals
                      go_wp2
                      go_meet
                      case rel => exact ⟨_, ok, rfl, hS'.setM _, ((HM.out.1.below ((Below.refl _ _).drew)).below hbel).setCell hl1 _, fun h => ⟨((hyes h).1.setCell hl _).mono hSd.below.size, (hyes h).2⟩, hno⟩
                  case rest =>
                    clear hS
                    obtain ⟨vm, ok, rfl, hS, hmj, hyes, hno⟩ := hcut
                    cases ok
                    case false =>
                      have HK := Lib.hid (hno rfl)
                      clear hyes hno
                      go_wp2
                      go_ret2
                      obtain ⟨x, y, hx, hy, hxy⟩ := HK.out
                      exact ⟨none, 1, rfl, hS.below, .inr ⟨rfl, rfl, x, y, hx, hy, .inr (.inr (by rw [HD'.out]; exact hxy))⟩⟩
                    case true =>
                      have HK := Lib.hid (hyes rfl)
                      have HJ := Lib.hid hmj
                      clear hyes hno hmj
                      go_wp2
                      go_ret2
                      refine ⟨some ⟨bl, 0, none⟩, 0, rfl, hS.below, .inl ⟨rfl, bl, rfl, ?_, ?_⟩⟩
                      · rw [← HU.out, HD'.out]
                        exact ⟨lt_of_block hS.hl, hS.nl, ⟨bu, hS.cell0, lt_of_block hS.hu, fun i hi => hS.uAt hi⟩, ⟨vj, hS.cell2, HJ.out.mono hB1⟩, ⟨vm, hS.cell3, HK.out.1⟩, hsm⟩
                      · rw [← HU.out, HD'.out]
                        exact fun x y hx hy => ⟨HN.out x y hx hy, HM.out.2 x y hx hy, HK.out.2 x y hx hy⟩
end Go.Proofs.Ytehfjlonpnanoaa
