/-
  A lattice in memory while New makes it: its block, and the two rows of words.
-/
import Derived.Test.YtehfjlonpnanoaaLatMem
import Derived.Test.YtehfjlonpnanoaaLatSpec
namespace Go.Proofs.Ytehfjlonpnanoaa
open Go.RowKit

def words (U : List Nat) : Array Value := (U.map fun (x : Nat) => Value.int .u64 (x : Int)).toArray

structure LatS (W0 w : World) (bl bu bd n : Nat) (vj vm : Value) (U D : List Nat) : Prop where
  below : Below W0.heap.size W0 w
  nl : W0.heap.size ≤ bl
  nu : W0.heap.size ≤ bu
  nd : W0.heap.size ≤ bd
  hl : w.heap[bl]? = some (.cells #[.slice (some ⟨bu, 0, none⟩) n n, .slice (some ⟨bd, 0, none⟩) n n, vj, vm] 45 (0, 0))
  hu : w.heap[bu]? = some (.cells (words U) 46 (0, 0))
  hd : w.heap[bd]? = some (.cells (words D) 46 (0, 0))
  hne : bu ≠ bd
  sU : Small n U
  sD : Small n D

section
variable {W0 w w' : World} {bl bu bd n : Nat} {vj vm : Value} {U D : List Nat}

theorem LatS.cell0 (h : LatS W0 w bl bu bd n vj vm U D) : w.cell? ⟨bl, 0, none⟩ = some (.slice (some ⟨bu, 0, none⟩) n n) := by simp [World.cell?, h.hl]
theorem LatS.cell1 (h : LatS W0 w bl bu bd n vj vm U D) : w.cell? ⟨bl, 1, none⟩ = some (.slice (some ⟨bd, 0, none⟩) n n) := by simp [World.cell?, h.hl]
theorem LatS.cell2 (h : LatS W0 w bl bu bd n vj vm U D) : w.cell? ⟨bl, 2, none⟩ = some vj := by simp [World.cell?, h.hl]
theorem LatS.cell3 (h : LatS W0 w bl bu bd n vj vm U D) : w.cell? ⟨bl, 3, none⟩ = some vm := by simp [World.cell?, h.hl]
theorem LatS.free (h : LatS W0 w bl bu bd n vj vm U D) (i : Nat) : w.frozen? ⟨bl, i, none⟩ = false := by simp [World.frozen?, h.hl]
theorem words_at {U : List Nat} (i : Nat) (hi : i < U.length) : (words U)[i]? = some (.int .u64 (U.getD i 0 : Nat)) := by
  simp [words, List.getD_eq_getElem?_getD, hi]
theorem LatS.uAt (h : LatS W0 w bl bu bd n vj vm U D) {i : Nat} (hi : i < n) : w.cell? ⟨bu, i, none⟩ = some (.int .u64 (U.getD i 0 : Nat)) := by
  simp only [World.cell?, h.hu]; exact words_at i (by rw [h.sU.1]; exact hi)
theorem LatS.dAt (h : LatS W0 w bl bu bd n vj vm U D) {i : Nat} (hi : i < n) : w.cell? ⟨bd, i, none⟩ = some (.int .u64 (D.getD i 0 : Nat)) := by
  simp only [World.cell?, h.hd]; exact words_at i (by rw [h.sD.1]; exact hi)
theorem LatS.uFree (h : LatS W0 w bl bu bd n vj vm U D) (i : Nat) : w.frozen? ⟨bu, i, none⟩ = false := by simp [World.frozen?, h.hu]
theorem LatS.dFree (h : LatS W0 w bl bu bd n vj vm U D) (i : Nat) : w.frozen? ⟨bd, i, none⟩ = false := by simp [World.frozen?, h.hd]

theorem LatS.of_below (h : LatS W0 w bl bu bd n vj vm U D) (hb : Below w.heap.size w w') : LatS W0 w' bl bu bd n vj vm U D :=
  ⟨h.below.trans (hb.mono h.below.size), h.nl, h.nu, h.nd, (hb.block _ (lt_of_block h.hl)).trans h.hl, (hb.block _ (lt_of_block h.hu)).trans h.hu, (hb.block _ (lt_of_block h.hd)).trans h.hd, h.hne, h.sU, h.sD⟩

theorem LatS.drewN (h : LatS W0 w bl bu bd n vj vm U D) (m : Nat) : LatS W0 (w.drewN m) bl bu bd n vj vm U D := h.of_below ⟨rfl, rfl, rfl, Nat.le_refl _, fun _ _ => rfl⟩
theorem LatS.drew (h : LatS W0 w bl bu bd n vj vm U D) : LatS W0 w.drew bl bu bd n vj vm U D := h.of_below ⟨rfl, rfl, rfl, Nat.le_refl _, fun _ _ => rfl⟩
theorem LatS.alloc (h : LatS W0 w bl bu bd n vj vm U D) (o : Obj) : LatS W0 (w.alloc o) bl bu bd n vj vm U D := h.of_below ((Below.refl _ _).alloc (Nat.le_refl _) o)

theorem words_set (U : List Nat) (i x : Nat) : words (U.set i x) = (words U).setIfInBounds i (.int .u64 (x : Int)) := by
  apply Array.ext'
  simp [words, List.map_set]

theorem LatS.setU (h : LatS W0 w bl bu bd n vj vm U D) (i x : Nat) (hs : Small n (U.set i x)) : LatS W0 (w.setCell ⟨bu, i, none⟩ (.int .u64 (x : Int))) bl bu bd n vj vm (U.set i x) D := by
  have h1 : bl ≠ bu := by rintro rfl; have := h.hl.symm.trans h.hu; simp at this
  refine ⟨h.below.setCell h.nu _, h.nl, h.nu, h.nd, (Below.heap_setCell _ _ _ _ h1).trans h.hl, ?_, (Below.heap_setCell _ _ _ _ (fun e => h.hne e.symm)).trans h.hd, h.hne, hs, h.sD⟩
  rw [words_set]
  simp [World.setCell, Array.getElem?_modify, h.hu]

theorem LatS.setD (h : LatS W0 w bl bu bd n vj vm U D) (i x : Nat) (hs : Small n (D.set i x)) : LatS W0 (w.setCell ⟨bd, i, none⟩ (.int .u64 (x : Int))) bl bu bd n vj vm U (D.set i x) := by
  have h1 : bl ≠ bd := by rintro rfl; have := h.hl.symm.trans h.hd; simp at this
  refine ⟨h.below.setCell h.nd _, h.nl, h.nu, h.nd, (Below.heap_setCell _ _ _ _ h1).trans h.hl, (Below.heap_setCell _ _ _ _ h.hne).trans h.hu, ?_, h.hne, h.sU, hs⟩
  rw [words_set]
  simp [World.setCell, Array.getElem?_modify, h.hd]

theorem LatS.setJ (h : LatS W0 w bl bu bd n vj vm U D) (x : Value) : LatS W0 (w.setCell ⟨bl, 2, none⟩ x) bl bu bd n x vm U D := by
  have h1 : bu ≠ bl := by rintro rfl; have := h.hl.symm.trans h.hu; simp at this
  have h2 : bd ≠ bl := by rintro rfl; have := h.hl.symm.trans h.hd; simp at this
  refine ⟨h.below.setCell h.nl _, h.nl, h.nu, h.nd, ?_, (Below.heap_setCell _ _ _ _ h1).trans h.hu, (Below.heap_setCell _ _ _ _ h2).trans h.hd, h.hne, h.sU, h.sD⟩
  simp [World.setCell, Array.getElem?_modify, h.hl]

theorem LatS.setM (h : LatS W0 w bl bu bd n vj vm U D) (x : Value) : LatS W0 (w.setCell ⟨bl, 3, none⟩ x) bl bu bd n vj x U D := by
  have h1 : bu ≠ bl := by rintro rfl; have := h.hl.symm.trans h.hu; simp at this
  have h2 : bd ≠ bl := by rintro rfl; have := h.hl.symm.trans h.hd; simp at this
  refine ⟨h.below.setCell h.nl _, h.nl, h.nu, h.nd, ?_, (Below.heap_setCell _ _ _ _ h1).trans h.hu, (Below.heap_setCell _ _ _ _ h2).trans h.hd, h.hne, h.sU, h.sD⟩
  simp [World.setCell, Array.getElem?_modify, h.hl]
end

def zrow (n : Nat) : Array Value := Array.replicate n (.int .u64 0)
theorem zrow_made (n : Nat) : madeCells #[Value.int .u64 0] n = zrow n := by
  apply Array.ext'
  rw [toList_madeCells_one]
  simp [zrow]
theorem zrow_words (n : Nat) : zrow n = words (List.replicate n 0) := by
  apply Array.ext'
  simp [zrow, words]

theorem LatS.start {W0 w w' : World} {n bl bu bd : Nat} (hb : Below W0.heap.size W0 w) (hb' : Below w.heap.size w w') (h1 : w.heap.size ≤ bl) (h2 : w.heap.size ≤ bu) (h3 : w.heap.size ≤ bd) (hne : bu ≠ bd)
    (hl : w'.heap[bl]? = some (.cells #[.slice (some ⟨bu, 0, none⟩) n n, .slice (some ⟨bd, 0, none⟩) n n, .slice none 0 0, .slice none 0 0] 45 (0, 0)))
    (hu : w'.heap[bu]? = some (.cells (zrow n) 46 (0, 0))) (hd : w'.heap[bd]? = some (.cells (zrow n) 46 (0, 0))) :
    LatS W0 w' bl bu bd n (.slice none 0 0) (.slice none 0 0) (idUp n 0) (List.replicate n 0) :=
  ⟨hb.trans (hb'.mono hb.size), Nat.le_trans hb.size h1, Nat.le_trans hb.size h2, Nat.le_trans hb.size h3, hl, by rw [idUp_zero, ← zrow_words]; exact hu, by rw [← zrow_words]; exact hd, hne,
    by rw [idUp_zero]; exact small_zero n, small_zero n⟩

theorem LatS.made {W0 w : World} {n bu bd : Nat} (hB : Below W0.heap.size W0 w) (h : (bu = w.heap.size ∧ bd = w.heap.size + 1) ∨ (bu = w.heap.size + 1 ∧ bd = w.heap.size)) :
    LatS W0 (((w.alloc (.cells (zrow n) 46)).alloc (.cells (zrow n) 46)).alloc
      (.cells #[.slice (some ⟨bu, 0, none⟩) n n, .slice (some ⟨bd, 0, none⟩) n n, .slice none 0 0, .slice none 0 0] 45)).drew (w.heap.size + 1 + 1) bu bd n (.slice none 0 0) (.slice none 0 0) (idUp n 0) (List.replicate n 0) := by
  have a0 : ∀ o o' o'', (((w.alloc o).alloc o').alloc o'').heap[w.heap.size]? = some o := fun o o' o'' => by
    rw [Below.heap_alloc _ _ _ (by simp; omega)]; exact heap_alloc2_old _ _ _
  have a1 : ∀ o o' o'', (((w.alloc o).alloc o').alloc o'').heap[w.heap.size + 1]? = some o' := fun o o' o'' => by
    rw [Below.heap_alloc _ _ _ (by simp)]; exact heap_alloc2_new _ _ _
  have a2 : ∀ o o' o'', (((w.alloc o).alloc o').alloc o'').heap[w.heap.size + 1 + 1]? = some o'' := fun o o' o'' => by
    have := heap_alloc2_new (w.alloc o) o' o''; simpa using this
  have hb : ∀ o o' o'', Below w.heap.size w (((w.alloc o).alloc o').alloc o'').drew := fun o o' o'' =>
    ((((Below.refl _ _).alloc (Nat.le_refl _) _).alloc (by simp) _).alloc (by simp; omega) _).drew
  rcases h with ⟨rfl, rfl⟩ | ⟨rfl, rfl⟩
  · exact LatS.start hB (hb _ _ _) (by omega) (by omega) (by omega) (by omega) (a2 _ _ _) (a0 _ _ _) (a1 _ _ _)
  · exact LatS.start hB (hb _ _ _) (by omega) (by omega) (by omega) (by omega) (a2 _ _ _) (a1 _ _ _) (a0 _ _ _)

end Go.Proofs.Ytehfjlonpnanoaa
