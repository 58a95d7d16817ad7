/-
  What bowdlerref1.Orders answers; it answers a lattice just where lattice.New does. Plain facts.
-/
import Derived.Test.YtehfjlonpnanoaaLatEdge
namespace Go.Proofs.Ytehfjlonpnanoaa
open Go.RowKit
set_option linter.unusedVariables false
set_option linter.unusedSimpArgs false

/-- What is asked of the order of pairs. -/
def RGood (n : Nat) (R : Nat → Nat → Bool) : Prop := ∀ a b, a < n → b < n → ¬ (a ≠ b ∧ R a b = true ∧ R b a = true) ∧ 0 ≤ leastF R n a b true ∧ 0 ≤ leastF R n a b false
structure OrdRead (w : World) (p n : Nat) (R : Nat → Nat → Bool) : Prop where
  ref : RefAt w p n R
  join : ∃ bo c, w.cell? ⟨p, 2, none⟩ = some (.slice (some ⟨bo, 0, none⟩) n c) ∧ ∀ a, a < n → ∃ br cr, w.cell? ⟨bo, a, none⟩ = some (.slice (some ⟨br, 0, none⟩) n cr) ∧ ∀ b, b < n → w.cell? ⟨br, b, none⟩ = some (.int .i64 (leastF R n a b true))
  meet : ∃ bo c, w.cell? ⟨p, 3, none⟩ = some (.slice (some ⟨bo, 0, none⟩) n c) ∧ ∀ a, a < n → ∃ br cr, w.cell? ⟨bo, a, none⟩ = some (.slice (some ⟨br, 0, none⟩) n cr) ∧ ∀ b, b < n → w.cell? ⟨br, b, none⟩ = some (.int .i64 (leastF R n a b false))
def OrdPost (W0 : World) (n m : Nat) (P : Nat → Int × Int) (e : Ending) (w' : World) : Prop := Below W0.heap.size W0 w' ∧
  ((¬ InRange n m P ∧ e = .returned (.tuple #[.pointer none, .int .i64 6])) ∨
   (InRange n m P ∧ ¬ RGood n (relClo m P n) ∧ e = .returned (.tuple #[.pointer none, .int .i64 1])) ∨
   (InRange n m P ∧ RGood n (relClo m P n) ∧ ∃ p, e = .returned (.tuple #[.pointer (some ⟨p, 0, none⟩), .int .i64 0]) ∧ OrdRead w' p n (relClo m P n)))


theorem good_fine {n m : Nat} {P : Nat → Int × Int} (hn : n ≤ 64) (hin : InRange n m P) : RGood n (relClo m P n) ↔ Fine n (upOf n m P) (downOf n m P) := by
  have hR : ∀ x y, x < n → y < n → (leqF (relClo m P n) true x y = true ↔ Le m P x y) := fun x y hx _ => relClo_le hn hin hx
  have hD : ∀ x y, x < n → y < n → (leqF (relClo m P n) false x y = true ↔ Le m P y x) := fun x y _ hy => relClo_le hn hin hy
  constructor
  · intro h
    have hanti : ∀ x y, x < n → y < n → Le m P x y → Le m P y x → x = y := fun x y hx hy h1 h2 =>
      Classical.byContradiction fun hne => (h x y hx hy).1 ⟨hne, (relClo_le hn hin hx).2 h1, (relClo_le hn hin hy).2 h2⟩
    intro x y hx hy
    refine ⟨fun hb => hb.2.1 (hanti x y hx hy ((B_upOf hn hin hx).1 hb.1) ((B_upOf hn hin hy).1 hb.2.2)), ?_, ?_⟩
    · rw [← least_join (Says.up hn hin hanti) hR hx hy]; exact (h x y hx hy).2.1
    · rw [← least_join (Says.down hn hin hanti) hD hx hy]; exact (h x y hx hy).2.2
  · intro hf
    have hanti := fine_anti hn hin hf
    intro x y hx hy
    refine ⟨fun hb => hb.1 (hanti x y hx hy ((relClo_le hn hin hx).1 hb.2.1) ((relClo_le hn hin hy).1 hb.2.2)), ?_, ?_⟩
    · rw [least_join (Says.up hn hin hanti) hR hx hy]; exact (hf x y hx hy).2.1
    · rw [least_join (Says.down hn hin hanti) hD hx hy]; exact (hf x y hx hy).2.2

/-- A lattice and an order of the same pairs answer alike. -/
structure Same (n m : Nat) (P : Nat → Int × Int) : Prop where
  leq : ∀ x y : Nat, x < n → y < n → ((upOf n m P).getD x 0).testBit y = relClo m P n x y
  join : ∀ x y : Nat, x < n → y < n → joinF n (upOf n m P) x y = leastF (relClo m P n) n x y true
  meet : ∀ x y : Nat, x < n → y < n → joinF n (downOf n m P) x y = leastF (relClo m P n) n x y false
  top : 0 < n → foldF (joinF n (upOf n m P)) n = edgeF (relClo m P n) n true
  bot : 0 < n → foldF (joinF n (downOf n m P)) n = edgeF (relClo m P n) n false
theorem same_of {n m : Nat} {P : Nat → Int × Int} (hn : n ≤ 64) (hin : InRange n m P) (hf : Fine n (upOf n m P) (downOf n m P)) : Same n m P := by
  have hR : ∀ x y, x < n → y < n → (leqF (relClo m P n) true x y = true ↔ Le m P x y) := fun x y hx _ => relClo_le hn hin hx
  have hD : ∀ x y, x < n → y < n → (leqF (relClo m P n) false x y = true ↔ Le m P y x) := fun x y _ hy => relClo_le hn hin hy
  have hanti := fine_anti hn hin hf
  refine ⟨fun x y hx hy => ?_, fun x y hx hy => (least_join (Says.up hn hin hanti) hR hx hy).symm, fun x y hx hy => (least_join (Says.down hn hin hanti) hD hx hy).symm, fun h0 => (edge_fold (Says.up hn hin hanti) (fun x y hx hy => (hf x y hx hy).2.1) h0 hR).symm, fun h0 => (edge_fold (Says.down hn hin hanti) (fun x y hx hy => (hf x y hx hy).2.2) h0 hD).symm⟩
  rw [Bool.eq_iff_iff]
  exact (B_upOf hn hin hx).trans (relClo_le hn hin hx).symm

end Go.Proofs.Ytehfjlonpnanoaa
