/-
  The first call of each statement of this chapter answers true; New where its answer is known.
-/
import Derived.Test.YtehfjlonpnanoaaLatTop
import Derived.Test.YtehfjlonpnanoaaLatLaw
namespace Go.Proofs.Ytehfjlonpnanoaa
open Go.RowKit

def Fine (n : Nat) (U D : List Nat) : Prop := ∀ x y, x < n → y < n → ¬ Bad U x y ∧ 0 ≤ joinF n U x y ∧ 0 ≤ joinF n D x y
def fineB (n : Nat) (U D : List Nat) : Bool :=
  (List.range n).all fun x => (List.range n).all fun y => !((U.getD x 0).testBit y && decide (x ≠ y) && (U.getD y 0).testBit x) && decide (0 ≤ joinF n U x y) && decide (0 ≤ joinF n D x y)

theorem fine_of (n : Nat) (U D : List Nat) (hb : fineB n U D = true) : Fine n U D := by
  intro x y hx hy
  have h1 := List.all_eq_true.1 hb x (List.mem_range.2 hx)
  have h2 := List.all_eq_true.1 h1 y (List.mem_range.2 hy)
  simp only [Bool.and_eq_true, Bool.not_eq_true', decide_eq_true_eq] at h2
  refine ⟨?_, h2.1.2, h2.2⟩
  rintro ⟨a, b, c⟩
  have := h2.1.1
  rw [a, c] at this
  simp [b] at this

theorem new_fine (ao : Option Addr) (bp off m cp n : Nat) (P : Nat → Int × Int) (W0 : World) (hn0 : 0 < n) (hn : n ≤ 64) (hm : m ≤ 1000)
    (hP : ∀ i, i < m → W0.cell? ⟨bp, off + i * 2, none⟩ = some (.int .i64 (P i).1) ∧ W0.cell? ⟨bp, off + i * 2 + 1, none⟩ = some (.int .i64 (P i).2))
    (hao : 0 < m → ao = some ⟨bp, off, none⟩) (hbp : 0 < m → bp < W0.heap.size) (hin : InRange n m P) (hf : Fine n (upOf n m P) (downOf n m P)) :
    Calls Try.prog 5 #[.int .i64 n, .slice ao m cp] W0 fun e w' => ∃ b, e = .returned (.tuple #[.pointer (some ⟨b, 0, none⟩), .int .i64 0]) ∧ Below W0.heap.size W0 w' ∧ LatAt W0.heap.size w' b n (upOf n m P) (downOf n m P) := by
  refine (new_any ao bp off m cp n P W0 hn0 hn hm hP hao hbp hin).mono ?_
  rintro e w' ⟨p, c, rfl, hb, (⟨rfl, b, rfl, hl, _⟩ | ⟨rfl, rfl, x, y, hx, hy, hbad⟩)⟩
  · exact ⟨b, rfl, hb, hl⟩
  · have := hf x y hx hy
    rcases hbad with h1 | h1 | h1
    · exact absurd h1 this.1
    · omega
    · omega

theorem new_none (ao : Option Addr) (bp off m cp n : Nat) (P : Nat → Int × Int) (W0 : World) (hn0 : 0 < n) (hn : n ≤ 64) (hm : m ≤ 1000)
    (hP : ∀ i, i < m → W0.cell? ⟨bp, off + i * 2, none⟩ = some (.int .i64 (P i).1) ∧ W0.cell? ⟨bp, off + i * 2 + 1, none⟩ = some (.int .i64 (P i).2))
    (hao : 0 < m → ao = some ⟨bp, off, none⟩) (hbp : 0 < m → bp < W0.heap.size) (hin : InRange n m P) (hf : ¬ Fine n (upOf n m P) (downOf n m P)) :
    Calls Try.prog 5 #[.int .i64 n, .slice ao m cp] W0 fun e w' => e = .returned (.tuple #[.pointer none, .int .i64 1]) ∧ Below W0.heap.size W0 w' := by
  refine (new_any ao bp off m cp n P W0 hn0 hn hm hP hao hbp hin).mono ?_
  rintro e w' ⟨p, c, rfl, hb, (⟨rfl, b, rfl, hl, hg⟩ | ⟨rfl, rfl, x, y, hx, hy, hbad⟩)⟩
  · exact absurd hg hf
  · exact ⟨rfl, hb⟩

def P4 (i : Nat) : Int × Int := ([(0, 1), (0, 2), (1, 3), (2, 3)] : List (Int × Int)).getD i (0, 0)
theorem P4_fine : Fine 4 (upOf 4 4 P4) (downOf 4 4 P4) := fine_of _ _ _ (by decide +kernel)
theorem P4_in : InRange 4 4 P4 := by
  intro i hi
  have : i = 0 ∨ i = 1 ∨ i = 2 ∨ i = 3 := by omega
  rcases this with rfl | rfl | rfl | rfl <;> decide

def U4 : List Nat := upOf 4 4 P4
def D4 : List Nat := downOf 4 4 P4
def P0 (_ : Nat) : Int × Int := (0, 0)

theorem in_P0 (n : Nat) : InRange n 0 P0 := fun i hi => absurd hi (by omega)

theorem upOf_P0 {n : Nat} (hn : n ≤ 64) {x y : Nat} (hx : x < n) : B (upOf n 0 P0) x y ↔ x = y := by
  rw [B_upOf hn (in_P0 n) hx]
  constructor
  · intro h
    induction h with
    | refl => rfl
    | step _ r _ => obtain ⟨i, hi, _⟩ := r; omega
  · rintro rfl; exact .refl _

theorem none_P0 {n : Nat} (hn2 : 2 ≤ n) (hn : n ≤ 64) : ¬ Fine n (upOf n 0 P0) (downOf n 0 P0) := by
  intro hf
  have h := (hf 0 1 (by omega) (by omega)).2.1
  obtain ⟨h1, h2, h3, _⟩ := joinF_spec h
  have a := (upOf_P0 hn (by omega)).1 h2
  have b := (upOf_P0 hn (by omega)).1 h3
  omega

theorem j4 : joinF 4 (upOf 4 4 P4) 1 2 = 3 := by decide +kernel
theorem m4 : joinF 4 (downOf 4 4 P4) 1 2 = 0 := by decide +kernel
theorem t4 : foldF (joinF 4 (upOf 4 4 P4)) 4 = 3 := by decide +kernel
theorem b4 : foldF (joinF 4 (downOf 4 4 P4)) 4 = 0 := by decide +kernel
theorem l4 : ((upOf 4 4 P4).getD 0 0).testBit 3 = true := by decide +kernel
theorem n4 : ((upOf 4 4 P4).getD 1 0).testBit 2 = false := by decide +kernel

def O4 : Obj := .cells #[.int .i64 0, .int .i64 1, .int .i64 0, .int .i64 2, .int .i64 1, .int .i64 3, .int .i64 2, .int .i64 3] 42

theorem alive_new (W : World) : Calls Try.prog 5 #[.int .i64 4, .slice (some ⟨W.heap.size, 0, none⟩) 4 4] (W.alloc O4) fun e w' =>
    ∃ b, e = .returned (.tuple #[.pointer (some ⟨b, 0, none⟩), .int .i64 0]) ∧ Below W.heap.size W w' ∧ LatAt (W.heap.size + 1) w' b 4 (upOf 4 4 P4) (downOf 4 4 P4) := by
  refine (new_fine (some ⟨W.heap.size, 0, none⟩) W.heap.size 0 4 4 4 P4 (W.alloc O4) (by omega) (by omega) (by omega) ?_ (fun _ => rfl) (fun _ => by simp) P4_in P4_fine).mono ?_
  · intro i hi
    have : i = 0 ∨ i = 1 ∨ i = 2 ∨ i = 3 := by omega
    rcases this with rfl | rfl | rfl | rfl <;> exact ⟨by simp [O4]; rfl, by simp [O4]; rfl⟩
  · rintro e w' ⟨b, rfl, hb, hl⟩
    rw [World.size_alloc] at hb hl
    exact ⟨b, rfl, ((Below.refl _ _).alloc (Nat.le_refl _) _).trans (hb.mono (by omega)), hl⟩

theorem alive_new2 (W : World) : Calls Try.prog 5 #[.int .i64 2, .slice none 0 0] W fun e w' =>
    e = .returned (.tuple #[.pointer none, .int .i64 1]) ∧ Below W.heap.size W w' := by
  exact new_none none 0 0 0 0 2 P0 W (by omega) (by omega) (by omega) (fun i hi => absurd hi (by omega)) (fun h => absurd h (by omega)) (fun h => absurd h (by omega)) (in_P0 2) (none_P0 (by omega) (by omega))

set_option maxHeartbeats 1000000 in
theorem alive_any (W0 : World) : Calls Try.prog 4 #[] W0 fun e w' => e = .returned (.bool true) ∧ Below W0.heap.size W0 w' := by
  go_enter Try.func4, Try.ntmps4
  go_wp2_with fail
  refine (alive_new W0).mono ?_
  rintro e w1 ⟨b, rfl, hb1, hl1⟩
  go_wp2_with fail
  refine (alive_new2 w1).mono ?_
  rintro e w2 ⟨rfl, hb2⟩
  have hl2 := latAt_below hl1 hb2
  have hbb := hb1.trans (hb2.mono hb1.size)
  clear hl1 hb1 hb2
  go_wp2_with fail
  refine (at_join hl2 (by omega) 1 2 (by omega) (by omega) (by omega) (by omega)).mono ?_
  rintro e w3 ⟨rfl, rfl⟩
  rw [show joinF 4 (upOf 4 4 P4) (Int.toNat 1) (Int.toNat 2) = 3 from j4]
  go_wp2_with fail
  refine (at_meet hl2 (by omega) 1 2 (by omega) (by omega) (by omega) (by omega)).mono ?_
  rintro e w3 ⟨rfl, rfl⟩
  rw [show joinF 4 (downOf 4 4 P4) (Int.toNat 1) (Int.toNat 2) = 0 from m4]
  go_wp2_with fail
  refine (at_top hl2 (by omega) (by omega) (fun x y hx hy => (P4_fine x y hx hy).2.1)).mono ?_
  rintro e w3 ⟨rfl, rfl⟩
  rw [t4]
  go_wp2_with fail
  refine (at_bottom hl2 (by omega) (by omega) (fun x y hx hy => (P4_fine x y hx hy).2.2)).mono ?_
  rintro e w3 ⟨rfl, rfl⟩
  rw [b4]
  go_wp2_with fail
  refine (at_leq hl2 (by omega) 0 3 (by omega) (by omega) (by omega) (by omega)).mono ?_
  rintro e w3 ⟨rfl, rfl⟩
  rw [show ((upOf 4 4 P4).getD (Int.toNat 0) 0).testBit (Int.toNat 3) = true from l4]
  go_wp2_with fail
  refine (at_leq hl2 (by omega) 1 2 (by omega) (by omega) (by omega) (by omega)).mono ?_
  rintro e w3 ⟨rfl, rfl⟩
  rw [show ((upOf 4 4 P4).getD (Int.toNat 1) 0).testBit (Int.toNat 2) = false from n4]
  go_wp2
  go_ret
  exact ⟨rfl, hbb⟩

end Go.Proofs.Ytehfjlonpnanoaa
