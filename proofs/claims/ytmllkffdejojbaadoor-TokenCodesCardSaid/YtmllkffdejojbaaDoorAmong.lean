/-
  repair.among and what it calls: whether a number lies in one of spans; repair.Ascii.
-/
import Derived.Test.YtmllkffdejojbaaDoorRows
import Derived.Test.YtmllkffdejojbaaDoorStr
import Derived.WalkKit
import Derived.Outline
import Derived.WalkLawsBesides
import Derived.WalkSpells
import Derived.Lib.Hide
namespace Go.Proofs.YtmllkffdejojbaaDoor
open Go.RowKit
set_option maxRecDepth 100000
set_option linter.unusedVariables false
set_option linter.unusedSimpArgs false

def inSp (r : Int) (p : Int × Int) : Bool := decide (p.1 ≤ r) && decide (r ≤ p.2)
def inSps (r : Int) (l : List (Int × Int)) : Bool := l.any (inSp r)

theorem span_one (a b r : Int) (g : Nat) (w : World) (hc : w.cell? ⟨g, 0, none⟩ = some (.int .i32 r)) (hg : g < w.heap.size) :
    Calls Tryd.prog 74 #[.agg #[.int .i32 a, .int .i32 b], .pointer (some ⟨g, 0, none⟩)] w fun e w' => e = .returned (.bool (inSp r (a, b))) ∧ Below w.heap.size w w' := by
  have h1 : (w.alloc (.cells #[.int .i32 a, .int .i32 b] 83)).cell? ⟨g, 0, none⟩ = some (.int .i32 r) :=
    (((Below.refl w.heap.size w).alloc (Nat.le_refl _) _).cell (p := ⟨g, 0, none⟩) hg).trans hc
  by_cases c1 : a ≤ r
  · go_enter Tryd.func74, Tryd.ntmps74
    go_wp2
    go_ret
    exact ⟨ret_bool (by simp [inSp, c1]), (Below.refl _ _).alloc (Nat.le_refl _) _⟩
  · go_enter Tryd.func74, Tryd.ntmps74
    go_wp2
    go_ret
    exact ⟨ret_bool (by rw [inSp, decide_eq_false (show ¬ a ≤ r by omega)]; rfl), (Below.refl _ _).alloc (Nat.le_refl _) _⟩

def spCells : List (Int × Int) → List Value
  | [] => []
  | p :: l => .int .i32 p.1 :: .int .i32 p.2 :: spCells l

def SpAt (w : World) (b : Nat) (l : List (Int × Int)) : Prop := b < w.heap.size ∧ ∀ i, i < l.length → w.cell? ⟨b, i * 2, none⟩ = some (.int .i32 (l.getD i (0, 0)).1) ∧ w.cell? ⟨b, i * 2 + 1, none⟩ = some (.int .i32 (l.getD i (0, 0)).2)

theorem any_take (r : Int) (l : List (Int × Int)) (k : Nat) (hk : k < l.length) : inSps r (l.take (k + 1)) = (inSps r (l.take k) || inSp r (l.getD k (0, 0))) := by
  unfold inSps
  rw [List.take_succ_eq_append_getElem hk, List.any_append]
  simp [List.getD_eq_getElem?_getD, hk]

def IdxPost (W : World) (r : Int) (l : List (Int × Int)) (e : Ending) (w' : World) : Prop := ∃ n : Int, e = .returned (.int .i64 n) ∧ decide (0 ≤ n) = inSps r l ∧ Below W.heap.size W w'

set_option maxHeartbeats 1000000 in
theorem idx_any (l : List (Int × Int)) (r : Int) (b c g : Nat) (w : World) (hl : l.length ≤ 1000) (hs : SpAt w b l) (hc : w.cell? ⟨g, 0, none⟩ = some (.int .i32 r)) (hg : g < w.heap.size) :
    Calls Tryd.prog 98 #[.slice (some ⟨b, 0, none⟩) l.length c, .func (.func 74) #[] #[.pointer (some ⟨g, 0, none⟩)]] w (IdxPost w r l) := by
  obtain ⟨hb, hcs⟩ := hs
  go_enter Tryd.func98, Tryd.ntmps98
  go_wp2
  go_loopw [8] (fun u8 wr => ∃ k : Nat, k ≤ l.length ∧ u8 = .int .i64 k ∧ Below w.heap.size w wr ∧ inSps r (l.take k) = false) (fun u8 _ => l.length - (intOf u8).toNat)
  case atStart => exact ⟨0, Nat.zero_le _, rfl, Below.refl _ _, rfl⟩
  case round =>
    obtain ⟨k, hk, rfl, hB, hno⟩ := hrel
    have HN := Lib.hid hno
    clear hno
    by_cases hlt : k < l.length
    · have h0 := (hB.cell (p := ⟨b, k * 2, none⟩) hb).trans (hcs k hlt).1
      have h1 := (hB.cell (p := ⟨b, k * 2 + 1, none⟩) hb).trans (hcs k hlt).2
      have hg' := (hB.cell (p := ⟨g, 0, none⟩) hg).trans hc
      have HT := Lib.hid (any_take r l k hlt)
      obtain ⟨x, hx⟩ : ∃ x, x = (l.getD k (0, 0)).1 := ⟨_, rfl⟩
      obtain ⟨y, hy⟩ : ∃ y, y = (l.getD k (0, 0)).2 := ⟨_, rfl⟩
      rw [← hx] at h0
      rw [← hy] at h1
      have HXY := Lib.hid (show l.getD k (0, 0) = (x, y) by rw [hx, hy])
      clear hx hy
      go_wp2_with fail
      refine (span_one x y r g wr hg' (by have := hB.size; omega)).mono ?_
      rintro e w2 ⟨rfl, hb2⟩
      have hbb := hB.trans (hb2.mono hB.size)
      cases hh : inSp r (x, y)
      · have HK := Lib.hid (show inSps r (l.take (k + 1)) = false by rw [HT.out, HN.out, HXY.out, hh]; rfl)
        clear hh
        go_wp2
        go_roundw
        case rel => exact ⟨k + 1, by omega, by go_num, hbb, HK.out⟩
        case measure => simp [intOf]; omega
      · have HK := Lib.hid (show inSps r l = true by
          have e1 : inSps r (l.take (k + 1)) = true := by rw [HT.out, HXY.out, hh]; simp
          unfold inSps at e1 ⊢
          obtain ⟨z, hz, hz'⟩ := List.any_eq_true.1 e1
          exact List.any_eq_true.2 ⟨z, List.mem_of_mem_take hz, hz'⟩)
        clear hh
        go_wp2
        go_ret
        exact ⟨k, rfl, by rw [HK.out]; simp, hbb⟩
    · obtain rfl : k = l.length := by omega
      go_wp2
      go_ret
      exact ⟨-1, rfl, by have := HN.out; rw [List.take_length] at this; rw [this]; rfl, hB⟩

theorem has_any (l : List (Int × Int)) (r : Int) (b c g : Nat) (w : World) (hl : l.length ≤ 1000) (hs : SpAt w b l) (hc : w.cell? ⟨g, 0, none⟩ = some (.int .i32 r)) (hg : g < w.heap.size) :
    Calls Tryd.prog 73 #[.slice (some ⟨b, 0, none⟩) l.length c, .func (.func 74) #[] #[.pointer (some ⟨g, 0, none⟩)]] w fun e w' => e = .returned (.bool (inSps r l)) ∧ Below w.heap.size w w' := by
  have hcall := idx_any l r b c g w hl hs hc hg
  have HC := Lib.hid hcall
  clear hcall
  go_enter Tryd.func73, Tryd.ntmps73
  go_wp2_with fail
  refine HC.out.mono ?_
  rintro e w2 ⟨n, rfl, hn, hb⟩
  have HN := Lib.hid hn
  clear hn
  go_wp2
  go_ret
  exact ⟨ret_bool HN.out, hb⟩

theorem SpAt.below {w w' : World} {b : Nat} {l : List (Int × Int)} (h : SpAt w b l) (hb : Below w.heap.size w w') : SpAt w' b l :=
  ⟨Nat.lt_of_lt_of_le h.1 hb.size, fun i hi => ⟨(hb.cell (p := ⟨b, i * 2, none⟩) h.1).trans (h.2 i hi).1, (hb.cell (p := ⟨b, i * 2 + 1, none⟩) h.1).trans (h.2 i hi).2⟩⟩

theorem among_any (l : List (Int × Int)) (r : Int) (b c : Nat) (w : World) (hl : l.length ≤ 1000) (hs : SpAt w b l) :
    Calls Tryd.prog 54 #[.int .i32 r, .slice (some ⟨b, 0, none⟩) l.length c] w fun e w' => e = .returned (.bool (inSps r l)) ∧ Below w.heap.size w w' := by
  have hba : Below w.heap.size w (w.alloc (.cells #[.int .i32 r] 21)) := (Below.refl _ _).alloc (Nat.le_refl _) _
  have hcall := has_any l r b c w.heap.size (w.alloc (.cells #[.int .i32 r] 21)) hl (hs.below hba) (by simp) (by simp)
  have HC := Lib.hid hcall
  clear hcall
  go_enter Tryd.func54, Tryd.ntmps54
  go_wp2_with fail
  refine HC.out.mono ?_
  rintro e w2 ⟨rfl, hb⟩
  go_wp2
  go_ret
  rw [World.size_alloc] at hb
  exact ⟨rfl, hba.trans (hb.mono (by omega))⟩

def asciiSps : List (Int × Int) := [(33, 47), (58, 64), (91, 96), (123, 126)]
def asciiP (c : UInt8) : Bool := inSps c.toNat asciiSps

theorem ascii_any (c : UInt8) (w : World) :
    Calls Tryd.prog 38 #[.int .u8 c.toNat] w fun e w' => e = .returned (.bool (asciiP c)) ∧ Below w.heap.size w w' := by
  have hc := byte_lt c
  obtain ⟨hc0, hc1⟩ := hc
  let o : Obj := .cells #[.int .i32 33, .int .i32 47, .int .i32 58, .int .i32 64, .int .i32 91, .int .i32 96, .int .i32 123, .int .i32 126] 83
  have hba : Below w.heap.size w (w.alloc o) := (Below.refl _ _).alloc (Nat.le_refl _) _
  have hsp : SpAt (w.alloc o) w.heap.size asciiSps := by
    refine ⟨by simp, fun i hi => ?_⟩
    have : i = 0 ∨ i = 1 ∨ i = 2 ∨ i = 3 := by simp [asciiSps] at hi; omega
    rcases this with rfl | rfl | rfl | rfl <;> simp [asciiSps, o]
  have hcall := among_any asciiSps c.toNat w.heap.size 4 (w.alloc o) (by decide) hsp
  have HC := Lib.hid hcall
  have HB := Lib.hid hba
  clear hcall hba hsp
  go_enter Tryd.func38, Tryd.ntmps38
  go_wp2_with fail
  refine HC.out.mono ?_
  rintro e w2 ⟨rfl, hb⟩
  go_wp2
  go_ret
  rw [World.size_alloc] at hb
  exact ⟨rfl, HB.out.trans (hb.mono (by omega))⟩

end Go.Proofs.YtmllkffdejojbaaDoor
