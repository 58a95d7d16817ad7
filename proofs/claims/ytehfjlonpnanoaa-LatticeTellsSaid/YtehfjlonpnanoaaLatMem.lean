/-
  The memory of a table of numbers while it is filled row by row: what each step of the two loops leaves of it.
-/
import Derived.Test.YtehfjlonpnanoaaLatBits
import Derived.Deep.Draws
namespace Go.Proofs.Ytehfjlonpnanoaa
open Go.RowKit

theorem one_new (w : World) (x : Value) (t : TypeId) : ∀ j u, [x][j]? = some u → (w.alloc (.cells #[x] t)).cell? ((⟨w.heap.size, 0, none⟩ : Addr).add j) = some u := by
  intro j u hj
  match j, hj with
  | 0, hj =>
    simp only [List.getElem?_cons_zero, Option.some.injEq] at hj
    subst hj
    have : (⟨w.heap.size, 0, none⟩ : Addr).add 0 = ⟨w.heap.size, 0, none⟩ := by simp [Addr.add]
    rw [this]
    simp

theorem one_new' (w : World) (x : Value) (t : TypeId) (b : Nat) (hb : b = w.heap.size) : ∀ j u, [x][j]? = some u → (w.alloc (.cells #[x] t)).cell? ⟨b, j, none⟩ = some u := by
  subst hb
  intro j u hj
  match j, hj with
  | 0, hj =>
    simp only [List.getElem?_cons_zero, Option.some.injEq] at hj
    subst hj
    simp

/-- A row of ints: block g of world w holds them. -/
def IntRow (w : World) (g n : Nat) (f : Nat → Int) : Prop := ∃ cur, w.heap[g]? = some (.cells cur 3 (0, 0)) ∧ ∀ i, i < n → cur[i]? = some (.int .i64 (f i))

theorem IntRow.cell {w : World} {g n : Nat} {f : Nat → Int} (h : IntRow w g n f) {i : Nat} (hi : i < n) : w.cell? ⟨g, i, none⟩ = some (.int .i64 (f i)) := by
  obtain ⟨cur, h1, h2⟩ := h
  simp [World.cell?, h1, h2 i hi]

theorem IntRow.lt {w : World} {g n : Nat} {f : Nat → Int} (h : IntRow w g n f) : g < w.heap.size := by
  obtain ⟨cur, h1, _⟩ := h
  exact lt_of_block h1

theorem IntRow.of_block {w w' : World} {g n : Nat} {f : Nat → Int} (h : IntRow w g n f) (e : w'.heap[g]? = w.heap[g]?) : IntRow w' g n f := by
  obtain ⟨cur, h1, h2⟩ := h
  exact ⟨cur, e.trans h1, h2⟩

/-- A table: block bo holds n slices; rows below ka are whole. -/
structure Tab (W0 w : World) (bo n ka : Nat) (v : Value) (kb : Nat) (F : Nat → Nat → Int) (Bk : Nat) : Prop where
  below : Below W0.heap.size W0 w
  bo_new : W0.heap.size ≤ bo
  bo_lt : bo < Bk
  bk_le : Bk ≤ w.heap.size
  cells : ∃ cur, w.heap[bo]? = some (.cells cur 39 (0, 0)) ∧ (∀ i, i < ka → ∃ g c, cur[i]? = some (.slice (some ⟨g, 0, none⟩) n c) ∧ g < Bk ∧ IntRow w g n (F i) ∧ W0.heap.size ≤ g) ∧
    (ka < n → cur[ka]? = some v) ∧ (∀ i, ka < i → i < n → cur[i]? = some (.slice none 0 0))
  own : w.ownsRow Bk 3 1 v kb ((List.range kb).map fun c => Value.int .i64 (F ka c))

theorem Tab.cellAt {W0 w : World} {bo n ka : Nat} {v : Value} {kb : Nat} {F : Nat → Nat → Int} {Bk : Nat} (h : Tab W0 w bo n ka v kb F Bk) (hk : ka < n) :
    w.cell? ⟨bo, ka, none⟩ = some v ∧ w.frozen? ⟨bo, ka, none⟩ = false := by
  obtain ⟨cur, h1, _, h3, _⟩ := h.cells
  exact ⟨by simp [World.cell?, h1, h3 hk], by simp [World.frozen?, h1]⟩

theorem Tab.start {W0 w : World} {bo n : Nat} {F : Nat → Nat → Int} (hb : Below W0.heap.size W0 w) (hn : W0.heap.size ≤ bo)
    (hc : w.heap[bo]? = some (.cells (Array.replicate n (.slice none 0 0)) 39 (0, 0))) : Tab W0 w bo n 0 (.slice none 0 0) 0 F w.heap.size :=
  ⟨hb, hn, lt_of_block hc, Nat.le_refl _, ⟨_, hc, fun i hi => absurd hi (by omega), fun hk => by simp [hk], fun i _ hi => by simp [hi]⟩, World.ownsRow_nil _ _ _ _⟩

/-- A row's end: the next row begins with nothing. -/
theorem Tab.next {W0 w : World} {bo n ka : Nat} {v : Value} {F : Nat → Nat → Int} {Bk : Nat} (h : Tab W0 w bo n ka v n F Bk) (hk : ka < n) :
    Tab W0 w bo n (ka + 1) (.slice none 0 0) 0 F w.heap.size := by
  obtain ⟨cur, h1, h2, h3, h4⟩ := h.cells
  refine ⟨h.below, h.bo_new, Nat.lt_of_lt_of_le h.bo_lt h.bk_le, Nat.le_refl _, ⟨cur, h1, ?_, fun hk' => h4 (ka + 1) (by omega) hk', fun i hi hi' => h4 i (by omega) hi'⟩, World.ownsRow_nil _ _ _ _⟩
  intro i hi
  by_cases e : i = ka
  · subst e
    rcases h.own.2 with ⟨_, e0⟩ | ⟨g, cap, cur', hv, hg, hh, _, _, hs, ht⟩
    · omega
    · refine ⟨g, cap, by rw [h3 hk, hv], lt_of_block hh, ⟨cur', hh, fun j hj => ?_⟩, by have := h.bo_new; have := h.bo_lt; omega⟩
      have := congrArg (fun l => l[j]?) ht
      simp only [List.getElem?_take, Nat.mul_one, hj, if_true] at this
      simpa [hj] using this
  · obtain ⟨g, c, a1, a2, a3, a4⟩ := h2 i (by omega)
    exact ⟨g, c, a1, Nat.lt_of_lt_of_le a2 h.bk_le, a3, a4⟩

theorem Tab.of_heap {W0 w w' : World} {bo n ka : Nat} {v : Value} {kb : Nat} {F : Nat → Nat → Int} {Bk : Nat} (h : Tab W0 w bo n ka v kb F Bk)
    (hs : w.heap.size ≤ w'.heap.size) (hb : ∀ k, k < w.heap.size → w'.heap[k]? = w.heap[k]?) (ho : w'.os = w.os) (ht : w'.tape = w.tape) (hp : w'.output = w.output) : Tab W0 w' bo n ka v kb F Bk := by
  obtain ⟨cur, h1, h2, h3, h4⟩ := h.cells
  have hz := h.below.size
  have hbl := h.bo_lt; have hbk := h.bk_le
  refine ⟨h.below.trans ⟨ho, ht, hp, hs, fun k hk => hb k (by omega)⟩, h.bo_new, h.bo_lt, by omega, ⟨cur, (hb bo (by omega)).trans h1, fun i hi => ?_, h3, h4⟩, ?_⟩
  · obtain ⟨g, c, a1, a2, a3, a4⟩ := h2 i hi
    exact ⟨g, c, a1, a2, a3.of_block (hb g (by omega)), a4⟩
  · rcases h.own with ⟨l1, l2 | ⟨g, cap, cur', hv, hg, hh, r⟩⟩
    · exact ⟨l1, .inl l2⟩
    · exact ⟨l1, .inr ⟨g, cap, cur', hv, hg, (hb g (lt_of_block hh)).trans hh, r⟩⟩

theorem Tab.drew {W0 w : World} {bo n ka : Nat} {v : Value} {kb : Nat} {F : Nat → Nat → Int} {Bk : Nat} (h : Tab W0 w bo n ka v kb F Bk) : Tab W0 w.drew bo n ka v kb F Bk :=
  h.of_heap (Nat.le_refl _) (fun _ _ => rfl) rfl rfl rfl

theorem Tab.drewN {W0 w : World} {bo n ka : Nat} {v : Value} {kb : Nat} {F : Nat → Nat → Int} {Bk : Nat} (h : Tab W0 w bo n ka v kb F Bk) (m : Nat) : Tab W0 (w.drewN m) bo n ka v kb F Bk :=
  h.of_heap (Nat.le_refl _) (fun _ _ => rfl) rfl rfl rfl

theorem Tab.alloc {W0 w : World} {bo n ka : Nat} {v : Value} {kb : Nat} {F : Nat → Nat → Int} {Bk : Nat} (h : Tab W0 w bo n ka v kb F Bk) (o : Obj) : Tab W0 (w.alloc o) bo n ka v kb F Bk :=
  h.of_heap (by simp) (fun k hk => Below.heap_alloc _ _ _ hk) rfl rfl rfl

/-- One number more in the row, and the row's slice stored back. -/
theorem Tab.push {W0 w w2 : World} {bo n ka : Nat} {v v' : Value} {kb : Nat} {F : Nat → Nat → Int} {Bk : Nat} (h : Tab W0 w bo n ka v kb F Bk) (hk : ka < n)
    (hown : w2.ownsRow Bk 3 1 v' (kb + 1) (((List.range kb).map fun c => Value.int .i64 (F ka c)) ++ [.int .i64 (F ka kb)]))
    (hg : w.grownBy w2 v.ownBlock) : Tab W0 (w2.setCell ⟨bo, ka, none⟩ v') bo n ka v' (kb + 1) F Bk := by
  obtain ⟨cur, h1, h2, h3, h4⟩ := h.cells
  have hz := h.below.size
  have hbl := h.bo_lt; have hbk := h.bk_le; have hbn := h.bo_new
  have hob := h.own.lt
  have hw2 : ∀ k, k < Bk → w2.heap[k]? = w.heap[k]? := fun k hk' => hg.block k (by omega) (fun e => by have := hob k e.symm; omega)
  have hset : ∀ k, k ≠ bo → (w2.setCell ⟨bo, ka, none⟩ v').heap[k]? = w2.heap[k]? := fun k hk' => Below.heap_setCell _ _ _ _ hk'
  have hgs := hg.size
  have hbo : (w2.setCell ⟨bo, ka, none⟩ v').heap[bo]? = some (.cells (cur.setIfInBounds ka v') 39 (0, 0)) := by
    have e := (hw2 bo hbl).trans h1
    simp [World.setCell, Array.getElem?_modify, e]
  refine ⟨(h.below.grown hg (by omega) (fun k e => by have := hob k e; omega)).setCell hbn _, hbn, hbl, by simp [World.setCell]; omega, ⟨_, hbo, fun i hi => ?_, fun _ => ?_, fun i hi hi' => ?_⟩, ?_⟩
  · obtain ⟨g, c, a1, a2, a3, a4⟩ := h2 i hi
    have hne : g ≠ bo := by
      rintro rfl
      obtain ⟨c', b1, _⟩ := a3
      rw [b1] at h1
      simp at h1
    exact ⟨g, c, by rw [Array.getElem?_setIfInBounds_ne (by omega)]; exact a1, a2, a3.of_block ((hset g hne).trans (hw2 g a2)), a4⟩
  · have hlt : ka < cur.size := by
      have := h3 hk
      exact (Array.getElem?_eq_some_iff.1 this).1
    simp [hlt]
  · rw [Array.getElem?_setIfInBounds_ne (by omega)]; exact h4 i hi hi'
  · have := ownsRow_setCell_other (a := ⟨bo, ka, none⟩) hown (fun e => by have := hown.lt bo e; omega) v'
    rw [List.range_succ, List.map_append]
    exact this

/-- Behind an append that may grow, the table's own block is as it was. -/
theorem Tab.kept {W0 w w2 : World} {bo n ka : Nat} {v : Value} {kb : Nat} {F : Nat → Nat → Int} {Bk : Nat} (h : Tab W0 w bo n ka v kb F Bk) (hk : ka < n) (hg : w.grownBy w2 v.ownBlock) :
    w2.cell? ⟨bo, ka, none⟩ = some v ∧ w2.frozen? ⟨bo, ka, none⟩ = false := by
  have hbl := h.bo_lt; have hbk := h.bk_le
  have hb : w2.heap[bo]? = w.heap[bo]? := hg.block bo (by omega) (fun e => by have := h.own.lt bo e.symm; omega)
  have hc := h.cellAt hk
  exact ⟨(World.cell?_of_block (a := ⟨bo, ka, none⟩) hb).trans hc.1, (World.frozen?_of_block (a := ⟨bo, ka, none⟩) hb).trans hc.2⟩

theorem own_some {w : World} {base : Nat} {e : TypeId} {v : Value} {n : Nat} {xs : List Value} (h : w.ownsRow base e 1 v (n + 1) xs) : ∃ g cap, v = .slice (some ⟨g, 0, none⟩) (n + 1) cap := by
  rcases h.2 with ⟨_, e0⟩ | ⟨g, cap, cur', hv, _⟩
  · omega
  · exact ⟨g, cap, hv⟩

/-- A matrix of ints behind a slice value, all of it in blocks from B on. -/
def MatAt (B : Nat) (w : World) (v : Value) (n : Nat) (F : Nat → Nat → Int) : Prop :=
  ∃ bo c, v = .slice (some ⟨bo, 0, none⟩) n c ∧ bo < w.heap.size ∧ B ≤ bo ∧ ∀ a, a < n → ∃ br cr, w.cell? ⟨bo, a, none⟩ = some (.slice (some ⟨br, 0, none⟩) n cr) ∧ br < w.heap.size ∧ B ≤ br ∧ ∀ c, c < n → w.cell? ⟨br, c, none⟩ = some (.int .i64 (F a c))

theorem Tab.mat {W0 w : World} {bo n : Nat} {v : Value} {F : Nat → Nat → Int} {Bk : Nat} (h : Tab W0 w bo n n v 0 F Bk) (c : Nat) : MatAt W0.heap.size w (.slice (some ⟨bo, 0, none⟩) n c) n F := by
  obtain ⟨cur, h1, h2, h3, h4⟩ := h.cells
  refine ⟨bo, c, rfl, lt_of_block h1, h.bo_new, fun a ha => ?_⟩
  obtain ⟨g, c, a1, a2, a3, a4⟩ := h2 a ha
  exact ⟨g, c, by simp [World.cell?, h1, a1], a3.lt, a4, fun c hc => a3.cell hc⟩

theorem MatAt.below {B : Nat} {w w' : World} {v : Value} {n : Nat} {F : Nat → Nat → Int} (h : MatAt B w v n F) (hb : Below w.heap.size w w') : MatAt B w' v n F := by
  obtain ⟨bo, c, hv, hlt, hB, hr⟩ := h
  refine ⟨bo, c, hv, Nat.lt_of_lt_of_le hlt hb.size, hB, fun a ha => ?_⟩
  obtain ⟨br, cr, a1, a2, a3, a4⟩ := hr a ha
  exact ⟨br, cr, (hb.cell (p := ⟨bo, a, none⟩) hlt).trans a1, Nat.lt_of_lt_of_le a2 hb.size, a3, fun c hc => (hb.cell (p := ⟨br, c, none⟩) a2).trans (a4 c hc)⟩

theorem MatAt.mono {B B' : Nat} {w : World} {v : Value} {n : Nat} {F : Nat → Nat → Int} (h : MatAt B w v n F) (hB : B' ≤ B) : MatAt B' w v n F := by
  obtain ⟨bo, c, hv, hlt, hB1, hr⟩ := h
  exact ⟨bo, c, hv, hlt, Nat.le_trans hB hB1, fun a ha => by
    obtain ⟨br, cr, a1, a2, a3, a4⟩ := hr a ha
    exact ⟨br, cr, a1, a2, Nat.le_trans hB a3, a4⟩⟩

theorem MatAt.setCell {B : Nat} {w : World} {v : Value} {n : Nat} {F : Nat → Nat → Int} (h : MatAt B w v n F) {p : Addr} (hp : p.block < B) (x : Value) : MatAt B (w.setCell p x) v n F := by
  obtain ⟨bo, c, hv, hlt, hB, hr⟩ := h
  have hc : ∀ b i, b ≠ p.block → (w.setCell p x).cell? ⟨b, i, none⟩ = w.cell? ⟨b, i, none⟩ := fun b i hb => World.cell?_of_block (a := ⟨b, i, none⟩) (Below.heap_setCell _ _ _ _ hb)
  refine ⟨bo, c, hv, by simpa [World.setCell] using hlt, hB, fun a ha => ?_⟩
  obtain ⟨br, cr, a1, a2, a3, a4⟩ := hr a ha
  exact ⟨br, cr, (hc _ _ (by omega)).trans a1, by simpa [World.setCell] using a2, a3, fun c h' => (hc _ _ (by omega)).trans (a4 c h')⟩

/-- The last of the first k levels that is among 'both', and whose own set is 'both'; -1: none. -/
def foundTo (A : Nat → Nat) (both : Nat) : Nat → Int
  | 0 => -1
  | k + 1 => if both.testBit k && A k == both then (k : Int) else foundTo A both k

theorem foundTo_hit {A : Nat → Nat} {both k : Nat} (h1 : both.testBit k = true) (h2 : A k = both) : foundTo A both (k + 1) = (k : Int) := by unfold foundTo; simp [h1, h2]
theorem foundTo_miss {A : Nat → Nat} {both k : Nat} (h2 : A k ≠ both) : foundTo A both (k + 1) = foundTo A both k := by
  rw [foundTo, if_neg (by simp [h2])]
theorem foundTo_miss0 {A : Nat → Nat} {both k : Nat} (h1 : ¬ both.testBit k = true) : foundTo A both (k + 1) = foundTo A both k := by
  rw [foundTo, if_neg (by simp [h1])]

theorem foundTo_bd (A : Nat → Nat) (both k : Nat) : -1 ≤ foundTo A both k ∧ foundTo A both k < k := by
  induction k with
  | zero => simp [foundTo]
  | succ k ih => unfold foundTo; split <;> omega

end Go.Proofs.Ytehfjlonpnanoaa
