/-
  lattice.bounds: a new table of the bounds of each two, or none where two have no bound.
-/
import Derived.Test.YtehfjlonpnanoaaRows
import Derived.Test.YtehfjlonpnanoaaLatMem
import Derived.Outline
import Derived.Deep.QuietTactic
import Derived.BigQuiet
import Derived.WalkLawsBesides
import Derived.Lib.Hide
namespace Go.Proofs.Ytehfjlonpnanoaa
open Go.RowKit

theorem Try.infoInt : (Try.prog.info? 3).map (fun i => (i.zero, i.size, i.bytes)) = some (some (.int .i64 0), 1, 8) := by kernel_rfl
theorem Try.infoInts : (Try.prog.info? 39).map (fun i => (i.zero, i.size, i.bytes)) = some (some (.slice none 0 0), 1, 24) := by kernel_rfl

def BoundsPost (W0 : World) (n : Nat) (F : Nat → Nat → Int) (e : Ending) (w' : World) : Prop :=
  ∃ ad l c ok, e = .returned (.tuple #[.slice ad l c, .bool ok]) ∧ Below W0.heap.size W0 w' ∧
    (ok = true → MatAt W0.heap.size w' (.slice ad l c) n F ∧ ∀ a b, a < n → b < n → 0 ≤ F a b) ∧ (ok = false → ∃ a b, a < n ∧ b < n ∧ F a b < 0)

theorem own_fresh {w : World} {base n g : Nat} {e : TypeId} {z : Value} (h : w.ownsRow base e 1 (.slice (some ⟨g, 0, none⟩) n n) n (madeCells #[z] n).toList) :
    w.heap[g]? = some (.cells (Array.replicate n z) e (0, 0)) := by
  rcases h.2 with ⟨hv, _⟩ | ⟨g', cap, cur, hv, _, hh, _, _, hs, ht⟩
  · cases hv
  · simp only [Value.slice.injEq, Option.some.injEq, Addr.mk.injEq] at hv
    obtain ⟨⟨rfl, _⟩, _, rfl⟩ := hv
    rw [toList_madeCells_one, List.take_of_length_le (by simp [hs])] at ht
    rw [hh]
    congr 2
    apply Array.ext'
    simp [ht]

theorem bounds_any (bs cs ba ca n : Nat) (S A : Nat → Nat) (W0 : World) (hn0 : 0 < n) (hn : n ≤ 64)
    (hS : ∀ i, i < n → W0.cell? ⟨bs, i, none⟩ = some (.int .u64 (S i))) (hA : ∀ i, i < n → W0.cell? ⟨ba, i, none⟩ = some (.int .u64 (A i)))
    (hbs : bs < W0.heap.size) (hba : ba < W0.heap.size) (hS64 : ∀ i, i < n → S i < W64) :
    Calls Try.prog 14 #[.slice (some ⟨bs, 0, none⟩) n cs, .slice (some ⟨ba, 0, none⟩) n ca] W0 (BoundsPost W0 n (fun a b => foundTo A (S a &&& S b) n)) := by
  obtain ⟨i0, hi, hz0, hz1, hz2⟩ := info_parts Try.infoInts
  go_enter Try.func14, Try.ntmps14
  go_wp2_with (first
    | (at_make; refine wpList_make_full _ rfl _ _ 36 rfl W0.heap.size 39 i0 (.slice none 0 0) 1 Try.underlying36 hi hz0 hz1 .i64 .i64 n n n rfl rfl rfl rfl ?c1 ?c2 ?c3 ?_))
  case c1 => rw [hz2]; omega
  case c2 => unfold maxLen; omega
  case c3 => exact Nat.le_refl _
  intro w1 hown hgr
  have hc0 := own_fresh hown
  have hB0 : Below W0.heap.size W0 w1 := (Below.refl _ _).grown hgr (Nat.le_refl _) (fun k e => by cases e)
  have T0 : Tab W0 w1 W0.heap.size n 0 (.slice none 0 0) 0 (fun a b => foundTo A (S a &&& S b) n) w1.heap.size := Tab.start hB0 (Nat.le_refl _) hc0
  clear hown hgr hc0 hB0
  go_wp2
  go_loopw [17] (fun u17 wr => ∃ ka : Nat, ka ≤ n ∧ u17 = .int .i64 ka ∧ (∃ Bk, Tab W0 wr W0.heap.size n ka (.slice none 0 0) 0 (fun a b => foundTo A (S a &&& S b) n) Bk) ∧ (∀ a b, a < ka → b < n → 0 ≤ foundTo A (S a &&& S b) n))
    (fun u17 _ => n - (intOf u17).toNat)
  case atStart => exact ⟨0, Nat.zero_le _, rfl, ⟨_, T0⟩, fun a b ha => absurd ha (by omega)⟩
  case round =>
    obtain ⟨ka, hka, rfl, ⟨Bk, T⟩, hpos⟩ := hrel
    by_cases hlt : ka < n
    · go_wp2
      obtain ⟨wo, rfl⟩ : ∃ wo : World, wo = wr := ⟨_, rfl⟩
      go_loopw [22] (fun u22 wr => ∃ kb : Nat, kb ≤ n ∧ u22 = .int .i64 kb ∧ (∃ v, Tab W0 wr W0.heap.size n ka v kb (fun a b => foundTo A (S a &&& S b) n) Bk) ∧ (∀ b, b < kb → 0 ≤ foundTo A (S ka &&& S b) n))
        (fun u22 _ => n - (intOf u22).toNat)
      case atStart => exact ⟨0, Nat.zero_le _, rfl, ⟨_, T⟩, fun b hb => absurd hb (by omega)⟩
      case round =>
        clear T
        obtain ⟨kb, hkb, rfl, ⟨v, T⟩, hpos'⟩ := hrel
        by_cases hlb : kb < n
        · have hSa : wr.cell? ⟨bs, ka, none⟩ = some (.int .u64 (S ka)) := (T.below.cell (p := ⟨bs, ka, none⟩) hbs).trans (hS ka hlt)
          have hSb : wr.cell? ⟨bs, kb, none⟩ = some (.int .u64 (S kb)) := (T.below.cell (p := ⟨bs, kb, none⟩) hbs).trans (hS kb hlb)
          obtain ⟨both, hboth⟩ : ∃ both, both = S ka &&& S kb := ⟨_, rfl⟩
          have hb64 : both < W64 := by rw [hboth]; exact Nat.lt_of_le_of_lt Nat.and_le_left (hS64 ka hlt)
          have hbit : bits BinOp.and IntKind.u64 ↑(S ka) ↑(S kb) = (both : Int) := by
            rw [hboth]; have h1 := hS64 ka hlt; have h2 := hS64 kb hlb; unfold W64 at h1 h2; exact bits_and_u64_nat _ _ h1 h2
          have HB := Lib.hid hboth
          clear hboth
          go_wp2
          go_quiet (fail)
          clear hbit
          go_wp2
          go_loop [10, 36] (fun u10 u36 => ∃ k : Nat, k ≤ n ∧ u36 = .int .i64 k ∧ u10 = .int .i64 (foundTo A both k)) (fun _ u36 => n - (intOf u36).toNat)
          case atStart => exact ⟨0, Nat.zero_le _, rfl, rfl⟩
          case round =>
            obtain ⟨k, hk, rfl, rfl⟩ := hrel
            have hbd := foundTo_bd A both k
            by_cases hlk : k < n
            · have hAk : wr.cell? ⟨ba, k, none⟩ = some (.int .u64 (A k)) := (T.below.cell (p := ⟨ba, k, none⟩) hba).trans (hA k hlk)
              by_cases h1 : both.testBit k
              · have h1' : 0 < bits BinOp.and IntKind.u64 ((both : Int) / 2 ^ k) 1 := by have := leq_bit both k hb64; rw [h1] at this; simpa using this
                by_cases h2 : A k = both
                · have h2' : ((A k : Int) == (both : Int)) = true := by simp [h2]
                  have HF := Lib.hid (foundTo_hit h1 h2)
                  clear h1 h2
                  go_wp2
                  go_round
                  case rel => exact ⟨k + 1, by omega, by go_num, by rw [HF.out]⟩
                  case measure => simp [intOf]; omega
                · have h2' : ((A k : Int) == (both : Int)) = false := by simp; omega
                  have HF := Lib.hid (foundTo_miss h2)
                  clear h1 h2
                  go_wp2
                  go_round
                  case rel => exact ⟨k + 1, by omega, by go_num, by rw [HF.out]⟩
                  case measure => simp [intOf]; omega
              · have h1' : ¬ 0 < bits BinOp.and IntKind.u64 ((both : Int) / 2 ^ k) 1 := by have := leq_bit both k hb64; simp only [Bool.not_eq_true] at h1; rw [h1] at this; simpa using this
                have HF := Lib.hid (foundTo_miss0 (A := A) h1)
                clear h1
                go_wp2
                go_round
                case rel => exact ⟨k + 1, by omega, by go_num, by rw [HF.out]⟩
                case measure => simp [intOf]; omega
            · obtain rfl : n = k := by omega
              have HB' := Lib.hid (show foundTo A (S ka &&& S kb) n = foundTo A both n from by rw [HB.out])
              by_cases hneg : foundTo A both n < 0
              · go_wp2
                go_ret2
                exact ⟨_, _, _, false, rfl, (T.drewN nq).below, fun h => by (cases h), fun _ => ⟨ka, kb, hlt, hlb, by show foundTo A (S ka &&& S kb) n < 0; rw [HB'.out]; exact hneg⟩⟩
              · obtain ⟨hv1, hv2⟩ := T.cellAt hlt
                obtain ⟨j0, hj, hy0, hy1, hy2⟩ := info_parts Try.infoInt
                have T1 := (T.drewN nq).alloc (.cells #[.int .i64 (foundTo A both n)] 3)
                go_wp2_with (first
                  | (at_builtin; refine wpList_append_own _ rfl _ _ 39 rfl Bk 3 j0 (.int .i64 0) 1 8 Try.underlying39 hj hy0 hy1 hy2 rfl (by decide) _ _ _ rfl T1.own ⟨wr.heap.size, 0, none⟩ 1 1 [.int .i64 (foundTo A both n)] rfl rfl ?c1 ?c2 ?c3 ?c4 ?c5 ?_))
                case c1 => exact one_new' (wr.drewN nq) _ _ _ rfl
                case c2 => first | rfl | (intro u hu; simp at hu; subst hu; rfl)
                case c3 => unfold maxLen; omega
                case c4 => omega
                case c5 => have := T1.bk_le; simpa using this
                intro v' w2 hown' hgrow _
                obtain ⟨g, cap, rfl⟩ := own_some hown'
                obtain ⟨hk1, hk2⟩ := T1.kept hlt hgrow
                have T2 := T1.push (v' := .slice (some ⟨g, 0, none⟩) (kb + 1) cap) hlt (by show World.ownsRow _ _ _ _ _ _ (_ ++ [Value.int .i64 (foundTo A (S ka &&& S kb) n)]); rw [HB'.out]; exact hown') hgrow
                clear hown' hgrow
                go_wp2
                go_roundw
                case rel => exact ⟨kb + 1, by omega, by go_num, ⟨_, T2⟩, fun b hb => by
                  by_cases e : b = kb
                  · subst e; rw [HB'.out]; exact hneg
                  · exact hpos' b (by omega)⟩
                case measure => simp [intOf]; omega
        · obtain rfl : kb = n := by omega
          go_wp2
          go_roundw
          case rel => exact ⟨ka + 1, by omega, by go_num, ⟨_, T.next hlt⟩, fun a b ha hb => by
            by_cases e : a = ka
            · subst e; exact hpos' b hb
            · exact hpos a b (by omega) hb⟩
          case measure => simp [intOf]; omega
    · obtain rfl : ka = n := by omega
      go_wp2
      go_ret2
      exact ⟨_, _, _, true, rfl, T.below, fun _ => ⟨T.mat _, hpos⟩, fun h => by cases h⟩
end Go.Proofs.Ytehfjlonpnanoaa
