/-
  bowdlerref1.Order in memory; its top and bottom (Edge).
-/
import Derived.Test.YtehfjlonpnanoaaLatRef
import Derived.Deep.QuietTactic
import Derived.BigQuiet
namespace Go.Proofs.Ytehfjlonpnanoaa
open Go.RowKit
set_option maxRecDepth 100000
set_option linter.unusedVariables false
set_option linter.unusedSimpArgs false

/-- An order that is read: how many levels, who is not above whom. -/
structure RefAt (w : World) (p n : Nat) (R : Nat → Nat → Bool) : Prop where
  num : w.cell? ⟨p, 0, none⟩ = some (.int .i64 n)
  rows : ∃ bo c, w.cell? ⟨p, 1, none⟩ = some (.slice (some ⟨bo, 0, none⟩) n c) ∧ ∀ a, a < n → ∃ br cr, w.cell? ⟨bo, a, none⟩ = some (.slice (some ⟨br, 0, none⟩) n cr) ∧ ∀ b, b < n → w.cell? ⟨br, b, none⟩ = some (.bool (R a b))
theorem RefAt.below {w w' : World} {p n : Nat} {R : Nat → Nat → Bool} (h : RefAt w p n R) (hb : Below w.heap.size w w') : RefAt w' p n R := by
  have kp : ∀ {a : Addr} {v : Value}, w.cell? a = some v → w'.cell? a = some v := fun {a v} hc => (hb.cell (World.block_lt_of_cell? _ _ hc)).trans hc
  obtain ⟨bo, c, h1, h2⟩ := h.rows
  refine ⟨kp h.num, bo, c, kp h1, fun a ha => ?_⟩
  obtain ⟨br, cr, h3, h4⟩ := h2 a ha
  exact ⟨br, cr, kp h3, fun b hb' => kp (h4 b hb')⟩

def edgeTo (R : Nat → Nat → Bool) (up : Bool) (x y : Nat) : Bool := (List.range y).all fun z => leqF R up z x
theorem edgeTo_succ (R : Nat → Nat → Bool) (up : Bool) (x y : Nat) : edgeTo R up x (y + 1) = (edgeTo R up x y && leqF R up y x) := by
  unfold edgeTo; rw [List.range_succ, List.all_append]; simp
theorem range_find (p : Nat → Bool) (n x : Nat) (hx : x < n) (h : ∀ z, z < x → p z = false) (hp : p x = true) : (List.range n).find? p = some x := by
  rw [List.find?_range_eq_some]
  exact ⟨hp, List.mem_range.2 hx, fun z hz => by rw [h z hz]; rfl⟩
theorem edge_hit {R : Nat → Nat → Bool} {n : Nat} {up : Bool} {x : Nat} (hx : x < n) (h : ∀ z, z < x → edgeTo R up z n = false) (hp : edgeTo R up x n = true) : edgeF R n up = x := by
  unfold edgeF
  rw [show (List.range n).find? (fun x => (List.range n).all fun y => leqF R up y x) = some x from range_find _ n x hx h hp]
  rfl
theorem edge_miss {R : Nat → Nat → Bool} {n : Nat} {up : Bool} (h : ∀ z, z < n → edgeTo R up z n = false) : edgeF R n up = -1 := by
  unfold edgeF
  rw [show (List.range n).find? (fun x => (List.range n).all fun y => leqF R up y x) = none from List.find?_eq_none.2 fun z hz => by
    have := h z (List.mem_range.1 hz)
    unfold edgeTo at this
    rw [this]; simp]
  rfl


set_option maxHeartbeats 4000000 in
theorem edge_any (p n : Nat) (R : Nat → Nat → Bool) (up : Bool) (w : World) (hn : n ≤ 64) (h : RefAt w p n R) :
    Calls Try.prog 13 #[.pointer (some ⟨p, 0, none⟩), .bool up] w fun e w' => e = .returned (.int .i64 (edgeF R n up)) ∧ w = w' := by
  have p0 := h.num
  obtain ⟨bo, c, p1, hrows⟩ := h.rows
  have HR := Lib.hid hrows
  clear h hrows
  go_enter Try.func13, Try.ntmps13
  go_wp2_with fail
  go_loop [5] (fun u5 => ∃ x : Nat, x ≤ n ∧ u5 = .int .i64 x ∧ ∀ z, z < x → edgeTo R up z n = false) (fun u5 => n - (intOf u5).toNat)
  case atStart => exact ⟨0, Nat.zero_le _, rfl, fun z hz => absurd hz (by omega)⟩
  case round =>
    obtain ⟨x, hx, rfl, hno⟩ := hrel
    have HNO := Lib.hid hno
    clear hno
    by_cases hxn : x < n
    · go_wp2_with fail
      go_loop [6, 7] (fun u6 u7 => ∃ y : Nat, y ≤ n ∧ u7 = .int .i64 y ∧ u6 = .bool (edgeTo R up x y)) (fun _ u7 => n - (intOf u7).toNat)
      case atStart => exact ⟨0, Nat.zero_le _, rfl, rfl⟩
      case round =>
        obtain ⟨y, hy, rfl, rfl⟩ := hrel
        by_cases hyn : y < n
        · obtain ⟨bx, cx, x1, x2⟩ := HR.out x hxn
          obtain ⟨by_, cy, y1, y2⟩ := HR.out y hyn
          have xy := x2 y hyn
          have yx := y2 x hxn
          have hst := edgeTo_succ R up x y
          clear x2 y2
          obtain ⟨ok, hq⟩ : ∃ b, edgeTo R up x y = b := ⟨_, rfl⟩
          rw [hq] at hst ⊢
          cases ok
          · rw [Bool.false_and] at hst
            have hr : True := trivial
            have HS := Lib.hid hst
            clear hst hq hr
            go_wp2_with fail
            go_round
            case rel => exact ⟨y + 1, by omega, by go_num, by rw [HS.out]⟩
            case measure => simp [intOf]; omega
          · rw [Bool.true_and] at hst
            cases up
            · obtain ⟨q, hr⟩ : ∃ b, R x y = b := ⟨_, rfl⟩
              rw [show leqF R false y x = R x y from rfl, hr] at hst
              rw [hr] at xy
              cases q
              · have HS := Lib.hid hst
                clear hst hq hr
                go_wp2_with fail
                go_round
                case rel => exact ⟨y + 1, by omega, by go_num, by rw [HS.out]⟩
                case measure => simp [intOf]; omega
              · have HS := Lib.hid hst
                clear hst hq hr
                go_wp2_with fail
                go_round
                case rel => exact ⟨y + 1, by omega, by go_num, by rw [HS.out]⟩
                case measure => simp [intOf]; omega
            · obtain ⟨q, hr⟩ : ∃ b, R y x = b := ⟨_, rfl⟩
              rw [show leqF R true y x = R y x from rfl, hr] at hst
              rw [hr] at yx
              cases q
              · have HS := Lib.hid hst
                clear hst hq hr
                go_wp2_with fail
                go_round
                case rel => exact ⟨y + 1, by omega, by go_num, by rw [HS.out]⟩
                case measure => simp [intOf]; omega
              · have HS := Lib.hid hst
                clear hst hq hr
                go_wp2_with fail
                go_round
                case rel => exact ⟨y + 1, by omega, by go_num, by rw [HS.out]⟩
                case measure => simp [intOf]; omega
        · obtain rfl : y = n := by omega
          obtain ⟨ok, hq⟩ : ∃ b, edgeTo R up x y = b := ⟨_, rfl⟩
          rw [hq]
          cases ok
          · have HQ := Lib.hid hq
            clear hq
            go_wp2_with fail
            go_round
            case rel => exact ⟨x + 1, by omega, by go_num, fun z hz => by
              by_cases e : z = x
              · rw [e]; exact HQ.out
              · exact HNO.out z (by omega)⟩
            case measure => simp [intOf]; omega
          · have HQ := Lib.hid (edge_hit hxn HNO.out hq)
            clear hq
            go_wp2_with fail
            go_ret
            exact ⟨by rw [HQ.out]; rfl, rfl⟩
    · obtain rfl : x = n := by omega
      have HQ := Lib.hid (edge_miss HNO.out)
      go_wp2_with fail
      go_ret
      exact ⟨by rw [HQ.out]; rfl, rfl⟩

end Go.Proofs.Ytehfjlonpnanoaa
