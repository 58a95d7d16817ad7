/-
  A slice of pairs that came in: what the walks ask of it, out of its reading as data.
-/
import Derived.Test.YtehfjlonpnanoaaLatPairs
import Derived.ProofKit
import Derived.OpenShut
import Derived.Deep.Slices
namespace Go.Proofs.Ytehfjlonpnanoaa
open Go.RowKit Go.Deep

/-- What the walk is told of a slice of pairs that came in. -/
def IsPairs (w : World) (a : Option Addr) (len : Nat) (P : Nat → Int × Int) : Prop :=
  ∃ b off, (0 < len → a = some ⟨b, off, none⟩) ∧ (0 < len → b < w.heap.size) ∧ ∀ i, i < len → w.cell? ⟨b, off + i * 2, none⟩ = some (.int .i64 (P i).1) ∧ w.cell? ⟨b, off + i * 2 + 1, none⟩ = some (.int .i64 (P i).2)

theorem Try.cellsPair : Try.prog.cellsOf 42 = 2 := by kernel_rfl
theorem Try.cellsInt : Try.prog.cellsOf 3 = 1 := by kernel_rfl

theorem add_pos (x : Addr) (hx : x.spot = none) (j : Nat) : x.add j = ⟨x.block, x.off + j, none⟩ := by
  obtain ⟨b, o, s⟩ := x
  simp only at hx
  subst hx
  unfold Addr.add
  split <;> simp_all

theorem open_pairs {H : Type} {enc : TypeId × Value → H} {W : World} {a : Option Addr} {len cap : Nat} {d : DataW H} {p : List MemPlace}
    (hk : DataW.Trod enc Try.prog W 0 (fun _ => true) true 22 (.slice a len cap) d p) : ∃ P, IsPairs W a len P ∧ ((len : Int) ≤ 9223372036854775807 ∧ len ≤ cap ∧ (a = none → len = 0 ∧ cap = 0)) := by
  obtain ⟨fuel, hf⟩ := hk
  rcases open_slice Try.underlying22 hf with ⟨hcs, _⟩ | ⟨x, l, c, m, n, D, Pl, hcs, hb, hl, hm, he, hx, hel⟩
  · simp only [Value.cells, List.cons.injEq, Value.slice.injEq, and_true] at hcs
    obtain ⟨rfl, rfl, rfl⟩ := hcs
    exact ⟨fun _ => (0, 0), ⟨0, 0, fun h => absurd h (by omega), fun h => absurd h (by omega), fun i hi => absurd hi (by omega)⟩, by omega, Nat.le_refl _, fun _ => ⟨rfl, rfl⟩⟩
  · simp only [Value.cells, List.cons.injEq, Value.slice.injEq, and_true] at hcs
    obtain ⟨rfl, rfl, rfl⟩ := hcs
    simp only [if_true] at he
    subst he
    rw [Try.cellsPair] at hel
    have hmx : (len : Int) ≤ 9223372036854775807 ∧ len ≤ m ∧ (some x = none → len = 0 ∧ m = 0) := ⟨by unfold maxLen at hm; omega, hl, fun h => by cases h⟩
    by_cases h0 : 0 < len
    · have key : ∀ i, ∃ q : Int × Int, i < len → W.cell? (x.add (i * 2)) = some (.int .i64 q.1) ∧ W.cell? ((x.add (i * 2)).add 1) = some (.int .i64 q.2) := by
        intro i
        by_cases hi : i < len
        · obtain ⟨cs', hc, ht⟩ := hel i (by omega)
          obtain ⟨xs, m', _, _, hlen, hxl, hxs⟩ := DataW.trod_array Try.underlying42 ht
          obtain ⟨hbb, hcl, hce⟩ := World.cells?_some hc
          have e0 := hxs 0 (by omega)
          have e1 := hxs 1 (by omega)
          rw [Try.cellsInt] at e0 e1
          obtain ⟨x0, hx0⟩ : ∃ x0, xs[0]? = some x0 := ⟨xs[0], by simp⟩
          obtain ⟨x1, hx1⟩ : ∃ x1, xs[1]? = some x1 := ⟨xs[1], by simp⟩
          rw [hx0] at e0
          rw [hx1] at e1
          obtain ⟨n0, hn0, _, _⟩ := DataW.trod_int Try.underlying3 e0
          obtain ⟨n1, hn1, _, _⟩ := DataW.trod_int Try.underlying3 e1
          refine ⟨(n0, n1), fun _ => ?_⟩
          have c0 := hce 0 (by omega)
          have c1 := hce 1 (by omega)
          have hlen2 : cs'.length = 2 := hcl
          match cs', hlen2, hn0, hn1 with
          | [y0, y1], _, hn0, hn1 =>
            simp at hn0 hn1
            subst hn0 hn1
            refine ⟨?_, by simpa using c1⟩
            have : (x.add (i * 2)).add 0 = x.add (i * 2) := by simp [Addr.add]
            rw [this] at c0
            simpa using c0
        · exact ⟨(0, 0), fun h => absurd h hi⟩
      obtain ⟨F, hF⟩ := Classical.axiomOfChoice key
      have hsp : x.spot = none := by
        have k1 := (hF 0 h0).1
        have : x.add (0 * 2) = x := by simp [Addr.add]
        rw [this] at k1
        unfold World.cell? at k1
        split at k1
        · split at k1
          · cases k1
          · rename_i hs; simpa using hs
        · cases k1
      refine ⟨F, ⟨x.block, x.off, fun _ => by obtain ⟨b, o, s⟩ := x; simp only at hsp; rw [hsp], fun _ => ?_, fun i hi => ?_⟩, hmx⟩
      · obtain ⟨k1, _⟩ := hF 0 h0
        have : (x.add (0 * 2)).block = x.block := by simp [Addr.add]
        rw [← this]
        exact block_lt_of_cell k1
      · obtain ⟨k1, k2⟩ := hF i hi
        rw [add_pos x hsp] at k1 k2
        rw [add_pos _ rfl] at k2
        exact ⟨k1, k2⟩
    · exact ⟨fun _ => (0, 0), ⟨0, 0, fun h => absurd h h0, fun h => absurd h h0, fun i hi => absurd hi (by omega)⟩, hmx⟩

end Go.Proofs.Ytehfjlonpnanoaa
