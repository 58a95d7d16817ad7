/-
  bowdlerref1.Order while it is made: three matrices, row by row in blocks of their own.
-/
import Derived.Test.YtehfjlonpnanoaaLatLeast
import Derived.Deep.AppendLies
import Derived.OwnWalk
import Derived.Laws.OwnMore
namespace Go.Proofs.Ytehfjlonpnanoaa
open Go.RowKit
set_option linter.unusedVariables false
set_option linter.unusedSimpArgs false

def rowA (n : Nat) (f : Nat → Value) : Array Value := ((List.range n).map f).toArray
theorem rowA_at {n b : Nat} {f : Nat → Value} (h : b < n) : (rowA n f)[b]? = some (f b) := by simp [rowA, h]
theorem rowA_set (n b : Nat) (f : Nat → Value) (x : Value) : (rowA n f).setIfInBounds b x = rowA n (fun y => if y = b then x else f y) := by
  apply Array.ext'
  unfold rowA
  simp only [List.setIfInBounds_toArray]
  apply List.ext_getElem?
  intro i
  rw [List.getElem?_set]
  simp only [List.length_map, List.length_range, List.getElem?_map]
  by_cases hi : i < n
  · rw [List.getElem?_range hi]
    by_cases e : b = i
    · subst e; simp [hi]
    · rw [if_neg e]
      simp [show ¬ i = b from fun h => e h.symm]
  · rw [List.getElem?_eq_none (l := List.range n) (by simp; omega)]
    by_cases e : b = i
    · subst e; simp [hi]
    · rw [if_neg e]; rfl
theorem rowA_congr {n : Nat} {f g : Nat → Value} (h : ∀ b, b < n → f b = g b) : rowA n f = rowA n g := by
  unfold rowA
  congr 1
  apply List.map_congr_left
  intro b hb
  exact h b (List.mem_range.1 hb)

theorem ownOther {w : World} {base : Nat} {e T : TypeId} {size n P : Nat} {v : Value} {xs : List Value} {cs : Array Value} (h : w.ownsRow base e size v n xs) (hP : w.heap[P]? = some (.cells cs T (0, 0))) (he : e ≠ T) : v.ownBlock ≠ some P := by
  intro h0
  rcases h.2 with ⟨rfl, _⟩ | ⟨g, cap, cur, rfl, _, hg, _⟩
  · simp [Value.ownBlock] at h0
  · simp [Value.ownBlock] at h0
    subst h0
    rw [hg] at hP
    simp at hP
    exact he hP.2
theorem blockOther {w : World} {a b : Nat} {c1 c2 : Array Value} {e1 e2 : TypeId} (h1 : w.heap[a]? = some (.cells c1 e1 (0, 0))) (h2 : w.heap[b]? = some (.cells c2 e2 (0, 0))) (he : e1 ≠ e2) : a ≠ b := by
  rintro rfl
  rw [h1] at h2
  simp at h2
  exact he h2.2
theorem ownKept {w w' : World} {base : Nat} {e : TypeId} {size : Nat} {v : Value} {n : Nat} {xs : List Value} (h : w.ownsRow base e size v n xs) (hk : ∀ j, v.ownBlock = some j → w'.heap[j]? = w.heap[j]?) : w'.ownsRow base e size v n xs := by
  refine ⟨h.1, ?_⟩
  rcases h.2 with h2 | ⟨g, cap, cur, hv, hb, hg, r⟩
  · exact Or.inl h2
  · refine Or.inr ⟨g, cap, cur, hv, hb, ?_, r⟩
    rw [hk g (by rw [hv]; rfl), hg]
theorem cellOf {w : World} {b i : Nat} {cs : Array Value} {e : TypeId} {u : Value} (h : w.heap[b]? = some (.cells cs e (0, 0))) (hi : cs[i]? = some u) : w.cell? ⟨b, i, none⟩ = some u := by
  simp [World.cell?, h, hi]
theorem frozenOf {w : World} {b : Nat} (i : Nat) {cs : Array Value} {e : TypeId} (h : w.heap[b]? = some (.cells cs e (0, 0))) : w.frozen? ⟨b, i, none⟩ = false := by
  simp [World.frozen?, h]

def slicesOf (r : Nat → Nat) (n k : Nat) : List Value := (List.range k).map fun a => .slice (some ⟨r a, 0, none⟩) n n
/-- A matrix whose first k rows are made. -/
structure Mx (w : World) (B n k : Nat) (v : Value) (eo ei : TypeId) (r : Nat → Nat) (F : Nat → Nat → Value) : Prop where
  own : w.ownsRow B eo 1 v k (slicesOf r n k)
  row : ∀ a, a < k → w.heap[r a]? = some (.cells (rowA n (F a)) ei (0, 0)) ∧ B ≤ r a
  inj : ∀ a a', a < k → a' < k → r a = r a' → a = a'
section
variable {w w' : World} {B n k : Nat} {v : Value} {eo ei : TypeId} {r : Nat → Nat} {F : Nat → Nat → Value}
theorem Mx.lt (h : Mx w B n k v eo ei r F) {a : Nat} (ha : a < k) : r a < w.heap.size := (Array.getElem?_eq_some_iff.1 (h.row a ha).1).1
theorem Mx.ownLt (h : Mx w B n k v eo ei r F) {g : Nat} (hg : v.ownBlock = some g) : B ≤ g ∧ g < w.heap.size := h.own.lt g hg
theorem Mx.kept (h : Mx w B n k v eo ei r F) (hk : ∀ j, v.ownBlock = some j → w'.heap[j]? = w.heap[j]?) (hr : ∀ a, a < k → w'.heap[r a]? = w.heap[r a]?) : Mx w' B n k v eo ei r F :=
  ⟨ownKept h.own hk, fun a ha => ⟨(hr a ha).trans (h.row a ha).1, (h.row a ha).2⟩, h.inj⟩
theorem Mx.below (h : Mx w B n k v eo ei r F) (hb : ∀ j, j < w.heap.size → w'.heap[j]? = w.heap[j]?) : Mx w' B n k v eo ei r F :=
  h.kept (fun j hj => hb j (h.ownLt hj).2) fun a ha => hb _ (h.lt ha)
/-- A store elsewhere. -/
theorem Mx.other (h : Mx w B n k v eo ei r F) (p : Addr) (x : Value) (h1 : v.ownBlock ≠ some p.block) (h2 : ∀ a, a < k → r a ≠ p.block) : Mx (w.setCell p x) B n k v eo ei r F :=
  h.kept (fun j hj => Below.heap_setCell _ _ _ _ (fun e => h1 (by rw [hj, e]))) fun a ha => Below.heap_setCell _ _ _ _ (h2 a ha)
/-- A store into a row. -/
theorem Mx.set (h : Mx w B n k v eo ei r F) (he : eo ≠ ei) {a b : Nat} (ha : a < k) (x : Value) : Mx (w.setCell ⟨r a, b, none⟩ x) B n k v eo ei r (fun c d => if c = a ∧ d = b then x else F c d) := by
  have hra := (h.row a ha).1
  have hne : v.ownBlock ≠ some (r a) := ownOther h.own hra he
  refine ⟨ownKept h.own fun j hj => Below.heap_setCell _ _ _ _ (fun e => hne (by rw [hj, e])), fun c hc => ⟨?_, (h.row c hc).2⟩, h.inj⟩
  by_cases e : c = a
  · subst e
    have : (w.setCell ⟨r c, b, none⟩ x).heap[r c]? = some (.cells ((rowA n (F c)).setIfInBounds b x) ei (0, 0)) := by
      simp [World.setCell, Array.getElem?_modify, hra]
    rw [this, rowA_set]
    congr 3
    funext d
    simp
  · rw [Below.heap_setCell _ _ _ _ (fun e2 => e (h.inj c a hc ha e2)), (h.row c hc).1]
    congr 3
    funext d
    simp [e]
theorem Mx.congr (h : Mx w B n k v eo ei r F) {G : Nat → Nat → Value} (hg : ∀ a b, a < k → b < n → F a b = G a b) : Mx w B n k v eo ei r G :=
  ⟨h.own, fun a ha => ⟨by rw [(h.row a ha).1, rowA_congr fun b hb => hg a b ha hb], (h.row a ha).2⟩, h.inj⟩
theorem slices_at (r : Nat → Nat) (n k a : Nat) (ha : a < k) : (slicesOf r n k)[a]? = some (.slice (some ⟨r a, 0, none⟩) n n) := by simp [slicesOf, ha]
/-- Reading. -/
theorem Mx.cells (h : Mx w B n k v eo ei r F) (h0 : 0 < k) : ∃ bo c, v = .slice (some ⟨bo, 0, none⟩) k c ∧ ∀ a, a < k → w.cell? ⟨bo, a, none⟩ = some (.slice (some ⟨r a, 0, none⟩) n n) ∧ w.frozen? ⟨r a, 0, none⟩ = false ∧ ∀ b, b < n → w.cell? ⟨r a, b, none⟩ = some (F a b) := by
  obtain ⟨ao, c, rfl, hc⟩ := own_val h.own
  obtain ⟨g, rfl, hg⟩ := hc h0
  exact ⟨g, c, rfl, fun a ha => ⟨hg a _ (slices_at r n k a ha), frozenOf 0 (h.row a ha).1, fun b hb => cellOf (h.row a ha).1 (rowA_at hb)⟩⟩
theorem Mx.frozen (h : Mx w B n k v eo ei r F) {a : Nat} (ha : a < k) (b : Nat) : w.frozen? ⟨r a, b, none⟩ = false := frozenOf b (h.row a ha).1
/-- A new row, and its slice behind the others. -/
theorem Mx.push {w5 : World} {v' : Value} (h : Mx w B n k v eo ei r F) (he : eo ≠ ei) (hB : B ≤ w.heap.size) (f0 : Nat → Value) (lit : Obj)
    (hown : w5.ownsRow B eo 1 v' (k + 1) (slicesOf r n k ++ [.slice (some ⟨w.heap.size, 0, none⟩) n n])) (hg : ((w.alloc (.cells (rowA n f0) ei)).alloc lit).grownBy w5 v.ownBlock) :
    Mx w5 B n (k + 1) v' eo ei (fun x => if x = k then w.heap.size else r x) (fun x => if x = k then f0 else F x) := by
  have hH : ((w.alloc (.cells (rowA n f0) ei)).alloc lit).heap[w.heap.size]? = some (.cells (rowA n f0) ei (0, 0)) := by
    rw [Below.heap_alloc _ _ _ (by simp)]
    exact heap_alloc_new w _
  refine ⟨?_, fun a ha => ?_, fun a a' ha ha' e => ?_⟩
  · have : slicesOf (fun x => if x = k then w.heap.size else r x) n (k + 1) = slicesOf r n k ++ [.slice (some ⟨w.heap.size, 0, none⟩) n n] := by
      unfold slicesOf
      rw [List.range_succ, List.map_append]
      congr 1
      · apply List.map_congr_left
        intro a ha
        have := List.mem_range.1 ha
        simp only [if_neg (show ¬ a = k by omega)]
      · simp
    rw [this]
    exact hown
  · by_cases e : a = k
    · subst e
      simp only [if_true]
      refine ⟨?_, hB⟩
      rw [hg.block _ (by simp; omega) (fun e => by have := (h.ownLt e.symm).2; omega)]
      exact hH
    · simp only [if_neg e]
      have hak : a < k := by omega
      have hl := h.lt hak
      refine ⟨?_, (h.row a hak).2⟩
      rw [hg.block _ (by simp; omega) (fun e => ownOther h.own (h.row a hak).1 he e.symm), Below.heap_alloc _ _ _ (by simp; omega), Below.heap_alloc _ _ _ hl]
      exact (h.row a hak).1
  · by_cases e1 : a = k
    · by_cases e2 : a' = k
      · omega
      · simp only [if_pos e1, if_neg e2] at e
        have := h.lt (show a' < k by omega)
        omega
    · by_cases e2 : a' = k
      · simp only [if_neg e1, if_pos e2] at e
        have := h.lt (show a < k by omega)
        omega
      · simp only [if_neg e1, if_neg e2] at e
        exact h.inj a a' (by omega) (by omega) e
end

end Go.Proofs.Ytehfjlonpnanoaa
