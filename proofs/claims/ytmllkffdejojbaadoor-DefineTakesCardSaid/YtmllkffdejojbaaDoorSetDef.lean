/-
  Five stores into one block: what the world then holds.
-/
import Derived.Test.YtmllkffdejojbaaDoorLineSpec
namespace Go.Proofs.YtmllkffdejojbaaDoor
open Go.RowKit
set_option linter.unusedVariables false
set_option linter.unusedSimpArgs false

/-- The five cells of a definition at a block, and that it may be written. -/
def DefAt (w : World) (k : Nat) (u0 u1 u2 u3 u4 : Value) : Prop :=
  w.cell? ⟨k, 0, none⟩ = some u0 ∧ w.cell? ⟨k, 1, none⟩ = some u1 ∧ w.cell? ⟨k, 2, none⟩ = some u2 ∧ w.cell? ⟨k, 3, none⟩ = some u3 ∧ w.cell? ⟨k, 4, none⟩ = some u4 ∧
    w.frozen? ⟨k, 0, none⟩ = false ∧ w.frozen? ⟨k, 1, none⟩ = false ∧ w.frozen? ⟨k, 2, none⟩ = false ∧ w.frozen? ⟨k, 3, none⟩ = false ∧ w.frozen? ⟨k, 4, none⟩ = false

theorem DefAt.below {w w' : World} {k n : Nat} {u0 u1 u2 u3 u4 : Value} (h : DefAt w k u0 u1 u2 u3 u4) (hb : Below n w w') (hk : k < n) : DefAt w' k u0 u1 u2 u3 u4 := by
  obtain ⟨c0, c1, c2, c3, c4, f0, f1, f2, f3, f4⟩ := h
  exact ⟨(hb.cell (p := ⟨k, 0, none⟩) hk).trans c0, (hb.cell (p := ⟨k, 1, none⟩) hk).trans c1, (hb.cell (p := ⟨k, 2, none⟩) hk).trans c2, (hb.cell (p := ⟨k, 3, none⟩) hk).trans c3, (hb.cell (p := ⟨k, 4, none⟩) hk).trans c4,
    (hb.frozen (p := ⟨k, 0, none⟩) hk).trans f0, (hb.frozen (p := ⟨k, 1, none⟩) hk).trans f1, (hb.frozen (p := ⟨k, 2, none⟩) hk).trans f2, (hb.frozen (p := ⟨k, 3, none⟩) hk).trans f3, (hb.frozen (p := ⟨k, 4, none⟩) hk).trans f4⟩

/-- The world after the five stores. -/
def World.setDef (w : World) (k : Nat) (u0 u1 u2 u3 u4 : Value) : World := ((((w.setCell ⟨k, 0, none⟩ u0).setCell ⟨k, 1, none⟩ u1).setCell ⟨k, 2, none⟩ u2).setCell ⟨k, 3, none⟩ u3).setCell ⟨k, 4, none⟩ u4

theorem setDef_at {w : World} {k : Nat} {v0 v1 v2 v3 v4 : Value} (h : DefAt w k v0 v1 v2 v3 v4) (u0 u1 u2 u3 u4 : Value) : DefAt (World.setDef w k u0 u1 u2 u3 u4) k u0 u1 u2 u3 u4 := by
  obtain ⟨c0, c1, c2, c3, c4, f0, f1, f2, f3, f4⟩ := h
  unfold World.setDef DefAt
  simp [go_sem, c0, c1, c2, c3, c4, f0, f1, f2, f3, f4]

theorem setDef_below (w : World) (k : Nat) (u0 u1 u2 u3 u4 : Value) : Below k w (World.setDef w k u0 u1 u2 u3 u4) := by
  unfold World.setDef
  have h0 : k ≤ k := Nat.le_refl k
  have b1 : Below k w (w.setCell ⟨k, 0, none⟩ u0) := (Below.refl k w).setCell h0 u0
  have b2 := b1.setCell (p := ⟨k, 1, none⟩) h0 u1
  have b3 := b2.setCell (p := ⟨k, 2, none⟩) h0 u2
  have b4 := b3.setCell (p := ⟨k, 3, none⟩) h0 u3
  exact b4.setCell (p := ⟨k, 4, none⟩) h0 u4

theorem setDef_other {w : World} {k j : Nat} {v0 v1 v2 v3 v4 : Value} (h : DefAt w j v0 v1 v2 v3 v4) (hk : j < k) (u0 u1 u2 u3 u4 : Value) : DefAt (World.setDef w k u0 u1 u2 u3 u4) j v0 v1 v2 v3 v4 :=
  h.below (setDef_below w k u0 u1 u2 u3 u4) hk

end Go.Proofs.YtmllkffdejojbaaDoor
