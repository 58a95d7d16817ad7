/-
  LatticeTurns: in whatever order pairs are told, and however often, they are the same order: the call answers true for every input.
-/
import Derived.Test.YtehfjlonpnanoaaLatStep
import Derived.Test.YtehfjlonpnanoaaLatLaws
import Derived.Deep.DeepCutAuto
namespace Go.Proofs.Ytehfjlonpnanoaa
open Go.RowKit

theorem tmod_fact (a : Int) (m : Nat) (hm : m ≤ 40) : ∃ (r : Int) (k : Nat), a.tmod (m + 1) = r ∧ -42 < r ∧ r < 42 ∧ (r + m + 1).tmod (m + 1) = k ∧ k ≤ m := by
  have hp : (0 : Int) < (m : Int) + 1 := by omega
  have h1 := Int.tmod_lt_of_pos a hp
  have h2 := Int.lt_tmod_of_pos a hp
  have h3 : 0 ≤ (a.tmod (m + 1) + m + 1).tmod (m + 1) := Int.tmod_nonneg _ (by omega)
  have h4 := Int.tmod_lt_of_pos (a.tmod (m + 1) + m + 1) hp
  exact ⟨a.tmod (m + 1), ((a.tmod (m + 1) + m + 1).tmod (m + 1)).toNat, rfl, by omega, by omega, by omega, by omega⟩

theorem src_below {w wx : World} {x : Addr} {l : List Value} (hb : Below w.heap.size w wx) (hs : ∀ j u, l[j]? = some u → w.cell? (x.add j) = some u) : ∀ j u, l[j]? = some u → wx.cell? (x.add j) = some u := by
  intro j u hj
  have k := hs j u hj
  exact (hb.cell (p := x.add j) (block_lt_of_cell k)).trans k

theorem src_of {w wx : World} {x : Addr} {P : Nat → Int × Int} {m c : Nat} (hb : Below w.heap.size w wx) (hs : ∀ j u, (cellsOf P m)[j]? = some u → w.cell? (x.add j) = some u) : SrcOk wx (.slice (some x) m c) m 2 (cellsOf P m) :=
  .inr ⟨x, c, rfl, cellsOf_len P m, src_below hb hs, segOf_one P m⟩

theorem cells_pre {P : Nat → Int × Int} {k m : Nat} (hk : k ≤ m) {w : World} {x : Addr} (hs : ∀ j u, (cellsOf P m)[j]? = some u → w.cell? (x.add j) = some u) : ∀ j u, (cellsOf P k)[j]? = some u → w.cell? (x.add j) = some u := by
  intro j u hj
  obtain ⟨hlt, h⟩ := cellsOf_get P k j u hj
  have c := cellsOf_at P m (j / 2) (by omega)
  rcases h with ⟨e, rfl⟩ | ⟨e, rfl⟩
  · exact hs j _ (by rw [show j = j / 2 * 2 by omega]; simpa using c.1)
  · exact hs j _ (by rw [show j = j / 2 * 2 + 1 by omega]; rw [show (j / 2 * 2 + 1) / 2 = j / 2 by omega]; exact c.2)

theorem cells_post {P : Nat → Int × Int} {k m : Nat} (hk : k ≤ m) {w : World} {x : Addr} (hs : ∀ j u, (cellsOf P m)[j]? = some u → w.cell? (x.add j) = some u) : ∀ j u, (cellsOf (fun i => P (k + i)) (m - k))[j]? = some u → w.cell? ((x.add (k * 2)).add j) = some u := by
  intro j u hj
  obtain ⟨hlt, h⟩ := cellsOf_get _ _ j u hj
  have c := cellsOf_at P m (k + j / 2) (by omega)
  rw [add_add]
  rcases h with ⟨e, rfl⟩ | ⟨e, rfl⟩
  · exact hs _ _ (by rw [show k * 2 + j = (k + j / 2) * 2 by omega]; exact c.1)
  · exact hs _ _ (by rw [show k * 2 + j = (k + j / 2) * 2 + 1 by omega]; exact c.2)

theorem pairs_src {w : World} {x : Addr} {m : Nat} {P : Nat → Int × Int} (hp : IsPairs w (some x) m P) : ∀ j u, (cellsOf P m)[j]? = some u → w.cell? (x.add j) = some u := by
  obtain ⟨b, off, h1, h2, h3⟩ := hp
  intro j u hj
  obtain ⟨hlt, h⟩ := cellsOf_get _ _ j u hj
  have e := h1 (by omega)
  simp only [Option.some.injEq] at e
  subst e
  rw [add_pos _ rfl]
  have c := h3 (j / 2) (by omega)
  rcases h with ⟨e, rfl⟩ | ⟨e, rfl⟩
  · rw [← c.1, show (⟨b, off, none⟩ : Addr).off + j = off + j / 2 * 2 from by show off + j = _; omega]
  · rw [← c.2, show (⟨b, off, none⟩ : Addr).off + j = off + j / 2 * 2 + 1 from by show off + j = _; omega]

theorem pairs_below {w wx : World} {ao : Option Addr} {m : Nat} {P : Nat → Int × Int} (hb : Below w.heap.size w wx) (hp : IsPairs w ao m P) : IsPairs wx ao m P := by
  obtain ⟨b, off, h1, h2, h3⟩ := hp
  exact ⟨b, off, h1, fun h => Nat.lt_of_lt_of_le (h2 h) hb.size, fun i hi => ⟨(hb.cell (p := ⟨b, off + i * 2, none⟩) (h2 (by omega))).trans (h3 i hi).1, (hb.cell (p := ⟨b, off + i * 2 + 1, none⟩) (h2 (by omega))).trans (h3 i hi).2⟩⟩

/-- New over pairs that were read, every way. -/
theorem new_p_fine {w : World} {ao : Option Addr} {n m cp : Nat} {P : Nat → Int × Int} (h0 : 0 < n) (hn : n ≤ 64) (hm : m ≤ 1000) (hp : IsPairs w ao m P) (hin : InRange n m P) (hf : Fine n (upOf n m P) (downOf n m P)) :
    Calls Try.prog 5 #[.int .i64 n, .slice ao m cp] w fun e w' => ∃ b, e = .returned (.tuple #[.pointer (some ⟨b, 0, none⟩), .int .i64 0]) ∧ Below w.heap.size w w' ∧ LatAt w.heap.size w' b n (upOf n m P) (downOf n m P) := by
  obtain ⟨b, off, h1, h2, h3⟩ := hp
  exact new_fine ao b off m cp n P w h0 hn hm h3 h1 h2 hin hf

theorem new_p_none {w : World} {ao : Option Addr} {n m cp : Nat} {P : Nat → Int × Int} (h0 : 0 < n) (hn : n ≤ 64) (hm : m ≤ 1000) (hp : IsPairs w ao m P) (hin : InRange n m P) (hf : ¬ Fine n (upOf n m P) (downOf n m P)) :
    Calls Try.prog 5 #[.int .i64 n, .slice ao m cp] w fun e w' => e = .returned (.tuple #[.pointer none, .int .i64 1]) ∧ Below w.heap.size w w' := by
  obtain ⟨b, off, h1, h2, h3⟩ := hp
  exact new_none ao b off m cp n P w h0 hn hm h3 h1 h2 hin hf

theorem new_p_arg {w : World} {ao : Option Addr} {n m cp : Nat} {P : Nat → Int × Int} (h0 : 0 < n) (hn : n ≤ 64) (hm : m ≤ 1000) (hp : IsPairs w ao m P) (hin : ¬ InRange n m P) :
    Calls Try.prog 5 #[.int .i64 n, .slice ao m cp] w fun e w' => e = .returned (.tuple #[.pointer none, .int .i64 6]) ∧ Below w.heap.size w w' := by
  obtain ⟨b, off, h1, h2, h3⟩ := hp
  have h0m : 0 < m := by
    apply Classical.byContradiction
    intro h
    exact hin (fun i hi => by omega)
  obtain rfl := h1 h0m
  have hbad : ∃ i, i < m ∧ ¬ (0 ≤ (P i).1 ∧ (P i).1 < n ∧ 0 ≤ (P i).2 ∧ (P i).2 < n) := by
    apply Classical.byContradiction
    intro h
    exact hin (fun i hi => Classical.byContradiction fun k => h ⟨i, hi, k⟩)
  exact new_pair b off m cp n P w h0 hn hm h3 (h2 h0m) hbad

theorem own_is {w : World} {base : Nat} {v : Value} {m : Nat} {P : Nat → Int × Int} (hown : w.ownsRow base 42 2 v m (cellsOf P m)) : ∃ ao cap, v = .slice ao m cap ∧ IsPairs w ao m P := by
  obtain ⟨ao, g, cap, rfl, q1, q2, q3⟩ := own_pairs hown
  exact ⟨ao, cap, rfl, g, 0, q1, q2, q3⟩

theorem nilP (w : World) : IsPairs w none 0 P0 := ⟨0, 0, fun h => absurd h (by omega), fun h => absurd h (by omega), fun i hi => absurd hi (by omega)⟩

end Go.Proofs.Ytehfjlonpnanoaa
