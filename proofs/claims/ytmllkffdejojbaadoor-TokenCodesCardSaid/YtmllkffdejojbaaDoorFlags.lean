/-
  A slice of bools that came in; bytes of the call's own, and what a store into them does.
-/
import Derived.Test.YtmllkffdejojbaaDoorStr
import Derived.Test.YtmllkffdejojbaaDoorRows
import Derived.Deep.Grids
import Derived.Laws.IdiomStrings
import Derived.OpenShut
import Derived.Below
import Derived.Laws.OwnMore
namespace Go.Proofs.YtmllkffdejojbaaDoor
open Go.RowKit Go.Deep
set_option linter.unusedVariables false
set_option linter.unusedSimpArgs false

/-- What the walk is told of a slice of bools that came in. -/
def IsFlags (w : World) (a : Option Addr) (len : Nat) (P : Nat → Bool) : Prop :=
  ∃ b off, (0 < len → a = some ⟨b, off, none⟩) ∧ (0 < len → b < w.heap.size) ∧ (∀ i, i < len → w.cell? ⟨b, off + i, none⟩ = some (.bool (P i))) ∧ (len : Int) ≤ 9223372036854775807

theorem cellsBool : Tryd.prog.cellsOf 4 = 1 := by kernel_rfl

theorem add_at (x : Addr) (hx : x.spot = none) (j : Nat) : x.add j = ⟨x.block, x.off + j, none⟩ := by
  obtain ⟨b, o, s⟩ := x
  simp only at hx
  subst hx
  unfold Addr.add
  split <;> simp_all

theorem add_zero_at (x : Addr) : x.add 0 = x := by simp [Addr.add]

theorem spot_of_cell {W : World} {x : Addr} {v : Value} (k1 : W.cell? x = some v) : x.spot = none ∧ x.block < W.heap.size := by
  refine ⟨?_, World.block_lt_of_cell? _ _ k1⟩
  unfold World.cell? at k1
  split at k1
  · split at k1
    · cases k1
    · rename_i hs; simpa using hs
  · cases k1

theorem open_flags {H : Type} {enc : TypeId × Value → H} {W : World} {a : Option Addr} {len cap : Nat} {d : DataW H} {p : List MemPlace}
    (hk : DataW.Trod enc Tryd.prog W 0 (fun _ => true) true 22 (.slice a len cap) d p) : ∃ P, IsFlags W a len P := by
  obtain ⟨fuel, hf⟩ := hk
  rcases open_bools Tryd.underlying22 Tryd.underlying4 cellsBool hf with ⟨hcs, _⟩ | ⟨x, l, c, B, hcs, hb, hl, hm, hx, hel⟩
  · simp only [Value.cells, List.cons.injEq, Value.slice.injEq, and_true] at hcs
    obtain ⟨rfl, rfl, rfl⟩ := hcs
    exact ⟨fun _ => false, 0, 0, fun h => absurd h (by omega), fun h => absurd h (by omega), fun i hi => absurd hi (by omega), by omega⟩
  · simp only [Value.cells, List.cons.injEq, Value.slice.injEq, and_true] at hcs
    obtain ⟨rfl, rfl, rfl⟩ := hcs
    have hmx : (len : Int) ≤ 9223372036854775807 := by unfold maxLen at hm; omega
    by_cases h0 : 0 < len
    · have k0 := hel 0 (by omega)
      rw [add_zero_at] at k0
      obtain ⟨hsp, hlt⟩ := spot_of_cell k0
      refine ⟨B, x.block, x.off, fun _ => ?_, fun _ => hlt, fun i hi => ?_, hmx⟩
      · obtain ⟨b, o, s⟩ := x; simp only at hsp; rw [hsp]
      · rw [← add_at x hsp]; exact hel i (by omega)
    · exact ⟨B, 0, 0, fun h => absurd h h0, fun h => absurd h h0, fun i hi => absurd hi (by omega), hmx⟩

/-- The bytes l stand at the head of a block, and may be written. -/
def BytesAt (W : World) (g : Nat) (l : List UInt8) : Prop := ∀ j, j < l.length → W.cell? ⟨g, j, none⟩ = some (.int .u8 ((l.getD j 0).toNat : Int)) ∧ W.frozen? ⟨g, j, none⟩ = false

theorem BytesAt.below {W W' : World} {g n : Nat} {l : List UInt8} (h : BytesAt W g l) (hb : Below n W W') (hg : g < n) : BytesAt W' g l :=
  fun j hj => ⟨(hb.cell (p := ⟨g, j, none⟩) hg).trans (h j hj).1, (hb.frozen (p := ⟨g, j, none⟩) hg).trans (h j hj).2⟩

theorem BytesAt.set {W : World} {g : Nat} {l : List UInt8} (h : BytesAt W g l) (i : Nat) (hi : i < l.length) (c : UInt8) : BytesAt (W.setCell ⟨g, i, none⟩ (.int .u8 (c.toNat : Int))) g (l.set i c) := by
  intro j hj
  rw [List.length_set] at hj
  obtain ⟨h1, h2⟩ := h j hj
  obtain ⟨h3, h4⟩ := h i hi
  by_cases e : j = i
  · subst e
    refine ⟨?_, ?_⟩
    · simp [go_sem, h3, hj]
    · simp [go_sem, h4]
  · refine ⟨?_, ?_⟩
    · have : ¬ i = j := fun x => e x.symm
      simp [go_sem, h1, e, this, List.getElem?_set]
    · simp [go_sem, h2]

/-- '[]byte(s)' lays the bytes of s. -/
theorem bytes_laid (W : World) (s : ByteArray) (cap : Nat) (e : TypeId) : BytesAt (W.alloc (.cells (bytesRow s cap) e ((bytesRow s cap).size, (bytesRow s cap).size + 1))) W.heap.size s.data.toList := by
  intro j hj
  have hj' : j < s.data.size := by simpa using hj
  refine ⟨?_, ?_⟩
  · rw [World.cell?_alloc_mark, bytesRow_at s cap j hj']
    have e : s.data.toList.getD j 0 = s.data[j] := by rw [List.getD_eq_getElem?_getD, List.getElem?_eq_getElem hj]; simp
    rw [e]
  · rw [World.frozen?_alloc_mark]
    have : j < (bytesRow s cap).size := by
      unfold bytesRow
      rw [Array.size_append, Array.size_map]
      omega
    simp; omega

theorem cells_new (w : World) (xs : List Value) (t : TypeId) (b : Nat) (hb : b = w.heap.size) : ∀ j u, xs[j]? = some u → (w.alloc (.cells xs.toArray t)).cell? ((⟨b, 0, none⟩ : Addr).add j) = some u := by
  subst hb
  intro j u hj
  rw [add_at _ rfl]
  simp [hj]

theorem own_below {w w' : World} {base : Nat} {e : TypeId} {size : Nat} {v : Value} {n : Nat} {xs : List Value} (h : w.ownsRow base e size v n xs) (hb : Below w.heap.size w w') : w'.ownsRow base e size v n xs :=
  h.kept (row := none) ⟨hb.os, hb.tape, hb.output, hb.size, fun k hk _ => hb.block k hk⟩ (Classical.em _)

end Go.Proofs.YtmllkffdejojbaaDoor
