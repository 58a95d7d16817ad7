/-
  LatticeBad: levels that are above one another both ways, and such that have no one above both, are no lattice: the call answers true for every input.
-/
import Derived.Test.YtehfjlonpnanoaaLatAlive
namespace Go.Proofs.Ytehfjlonpnanoaa
open Go.RowKit

def P2 (a b c d : Int) (i : Nat) : Int × Int := if i = 0 then (a, b) else (c, d)

theorem cells2 (W : World) (a b c d : Int) : ∀ i, i < 2 → (W.alloc (.cells #[.int .i64 a, .int .i64 b, .int .i64 c, .int .i64 d] 42)).cell? ⟨W.heap.size, 0 + i * 2, none⟩ = some (.int .i64 (P2 a b c d i).1) ∧
    (W.alloc (.cells #[.int .i64 a, .int .i64 b, .int .i64 c, .int .i64 d] 42)).cell? ⟨W.heap.size, 0 + i * 2 + 1, none⟩ = some (.int .i64 (P2 a b c d i).2) := by
  intro i hi
  have : i = 0 ∨ i = 1 := by omega
  rcases this with rfl | rfl <;> simp [P2]

theorem bad2_new (n : Nat) (a b : Int) (W : World) (hn2 : 2 ≤ n) (hn : n ≤ 64) (ha : 0 ≤ a) (ha' : a < n) (hb : 0 ≤ b) (hb' : b < n) (hab : a ≠ b) :
    Calls Try.prog 5 #[.int .i64 n, .slice (some ⟨W.heap.size, 0, none⟩) 2 2] (W.alloc (.cells #[.int .i64 a, .int .i64 b, .int .i64 b, .int .i64 a] 42)) fun e w' =>
      e = .returned (.tuple #[.pointer none, .int .i64 1]) ∧ Below W.heap.size W w' := by
  have hin : InRange n 2 (P2 a b b a) := by
    intro i hi
    have : i = 0 ∨ i = 1 := by omega
    rcases this with rfl | rfl <;> simp [P2] <;> omega
  refine (new_none (some ⟨W.heap.size, 0, none⟩) W.heap.size 0 2 2 n (P2 a b b a) _ (by omega) hn (by omega) (cells2 W a b b a) (fun _ => rfl) (fun _ => by simp) hin ?_).mono ?_
  · intro hf
    refine (hf a.toNat b.toNat (by omega) (by omega)).1 ⟨?_, by omega, ?_⟩
    · exact (B_upOf hn hin (by omega)).2 (.of ⟨0, by omega, by simp [P2], by simp [P2]⟩)
    · exact (B_upOf hn hin (by omega)).2 (.of ⟨1, by omega, by simp [P2], by simp [P2]⟩)
  · rintro e w' ⟨rfl, h⟩
    rw [World.size_alloc] at h
    exact ⟨rfl, ((Below.refl _ _).alloc (Nat.le_refl _) _).trans (h.mono (by omega))⟩

theorem bad0_new (n : Nat) (W : World) (hn2 : 2 ≤ n) (hn : n ≤ 64) : Calls Try.prog 5 #[.int .i64 n, .slice none 0 0] W fun e w' =>
    e = .returned (.tuple #[.pointer none, .int .i64 1]) ∧ Below W.heap.size W w' :=
  new_none none 0 0 0 0 n P0 W (by omega) hn (by omega) (fun i hi => absurd hi (by omega)) (fun h => absurd h (by omega)) (fun h => absurd h (by omega)) (in_P0 n) (none_P0 hn2 hn)

theorem bad1_new (n : Nat) (a : Int) (W : World) (hn2 : 2 ≤ n) (hn : n ≤ 64) :
    Calls Try.prog 5 #[.int .i64 n, .slice (some ⟨W.heap.size, 0, none⟩) 1 1] (W.alloc (.cells #[.int .i64 a, .int .i64 n] 42)) fun e w' =>
      e = .returned (.tuple #[.pointer none, .int .i64 6]) ∧ Below W.heap.size W w' := by
  refine (new_pair W.heap.size 0 1 1 n (fun _ => (a, n)) _ (by omega) hn (by omega) ?_ (by simp) ⟨0, by omega, by simp⟩).mono ?_
  · intro i hi
    obtain rfl : i = 0 := by omega
    simp
  · rintro e w' ⟨rfl, h⟩
    rw [World.size_alloc] at h
    exact ⟨rfl, ((Below.refl _ _).alloc (Nat.le_refl _) _).trans (h.mono (by omega))⟩

end Go.Proofs.Ytehfjlonpnanoaa
