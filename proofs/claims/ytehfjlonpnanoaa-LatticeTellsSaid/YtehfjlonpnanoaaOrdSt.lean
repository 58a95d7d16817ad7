/-
  bowdlerref1.Order while it is made: its state, and what each store leaves of it.
-/
import Derived.Test.YtehfjlonpnanoaaOrdMem
namespace Go.Proofs.Ytehfjlonpnanoaa
open Go.RowKit
set_option linter.unusedVariables false
set_option linter.unusedSimpArgs false

structure Ord (W0 w : World) (p n kL kJ kM : Nat) (vL vJ vM : Value) (rl rj rm : Nat → Nat) (R : Nat → Nat → Bool) (J M : Nat → Nat → Int) : Prop where
  below : Below W0.heap.size W0 w
  pn : W0.heap.size ≤ p
  par : w.heap[p]? = some (.cells #[.int .i64 n, vL, vJ, vM] 38 (0, 0))
  mL : Mx w W0.heap.size n kL vL 34 4 rl (fun a b => .bool (R a b))
  mJ : Mx w W0.heap.size n kJ vJ 39 3 rj (fun a b => .int .i64 (J a b))
  mM : Mx w W0.heap.size n kM vM 39 3 rm (fun a b => .int .i64 (M a b))
  sepO : ∀ g, vJ.ownBlock = some g → vM.ownBlock ≠ some g
  sepR : ∀ a a', a < kJ → a' < kM → rj a ≠ rm a'

theorem own_blockT {w : World} {base : Nat} {e : TypeId} {size : Nat} {v : Value} {n : Nat} {xs : List Value} (h : w.ownsRow base e size v n xs) {g : Nat} (hg : v.ownBlock = some g) : ∃ cur, w.heap[g]? = some (.cells cur e (0, 0)) := by
  rcases h.2 with ⟨rfl, _⟩ | ⟨g2, cap, cur, rfl, _, hh, _⟩
  · simp [Value.ownBlock] at hg
  · simp [Value.ownBlock] at hg
    subst hg
    exact ⟨cur, hh⟩

section
variable {W0 w w' : World} {p n kL kJ kM : Nat} {vL vJ vM : Value} {rl rj rm : Nat → Nat} {R : Nat → Nat → Bool} {J M : Nat → Nat → Int}
theorem Ord.plt (h : Ord W0 w p n kL kJ kM vL vJ vM rl rj rm R J M) : p < w.heap.size := (Array.getElem?_eq_some_iff.1 h.par).1
theorem Ord.cells (h : Ord W0 w p n kL kJ kM vL vJ vM rl rj rm R J M) : w.cell? ⟨p, 0, none⟩ = some (.int .i64 n) ∧ w.cell? ⟨p, 1, none⟩ = some vL ∧ w.cell? ⟨p, 2, none⟩ = some vJ ∧ w.cell? ⟨p, 3, none⟩ = some vM :=
  ⟨cellOf h.par rfl, cellOf h.par rfl, cellOf h.par rfl, cellOf h.par rfl⟩
theorem Ord.later (h : Ord W0 w p n kL kJ kM vL vJ vM rl rj rm R J M) (hb : Below w.heap.size w w') : Ord W0 w' p n kL kJ kM vL vJ vM rl rj rm R J M :=
  ⟨h.below.trans (hb.mono h.below.size), h.pn, (hb.block p h.plt).trans h.par, h.mL.below fun j hj => hb.block j hj, h.mJ.below fun j hj => hb.block j hj, h.mM.below fun j hj => hb.block j hj, h.sepO, h.sepR⟩
theorem Ord.congrR (h : Ord W0 w p n kL kJ kM vL vJ vM rl rj rm R J M) {R' : Nat → Nat → Bool} (hR : ∀ a b, a < kL → b < n → R a b = R' a b) : Ord W0 w p n kL kJ kM vL vJ vM rl rj rm R' J M :=
  ⟨h.below, h.pn, h.par, h.mL.congr (fun a b ha hb => by rw [hR a b ha hb]), h.mJ, h.mM, h.sepO, h.sepR⟩
theorem Ord.setL (h : Ord W0 w p n kL kJ kM vL vJ vM rl rj rm R J M) {a : Nat} (b : Nat) (ha : a < kL) (x : Bool) :
    Ord W0 (w.setCell ⟨rl a, b, none⟩ (.bool x)) p n kL kJ kM vL vJ vM rl rj rm (fun c d => if c = a ∧ d = b then x else R c d) J M := by
  have hra := h.mL.row a ha
  refine ⟨h.below.setCell hra.2 _, h.pn, ?_, ?_, h.mJ.other _ _ (ownOther h.mJ.own hra.1 (by decide)) (fun c hc => blockOther (h.mJ.row c hc).1 hra.1 (by decide)), h.mM.other _ _ (ownOther h.mM.own hra.1 (by decide)) (fun c hc => blockOther (h.mM.row c hc).1 hra.1 (by decide)), h.sepO, h.sepR⟩
  · rw [Below.heap_setCell _ _ _ _ (blockOther h.par hra.1 (by decide))]; exact h.par
  · refine (h.mL.set (by decide) (b := b) ha (.bool x)).congr fun c d _ _ => ?_
    split <;> rfl
theorem Ord.setJ (h : Ord W0 w p n kL kJ kM vL vJ vM rl rj rm R J M) {a : Nat} (b : Nat) (ha : a < kJ) (x : Int) :
    Ord W0 (w.setCell ⟨rj a, b, none⟩ (.int .i64 x)) p n kL kJ kM vL vJ vM rl rj rm R (fun c d => if c = a ∧ d = b then x else J c d) M := by
  have hra := h.mJ.row a ha
  refine ⟨h.below.setCell hra.2 _, h.pn, ?_, h.mL.other _ _ (ownOther h.mL.own hra.1 (by decide)) (fun c hc => blockOther (h.mL.row c hc).1 hra.1 (by decide)), ?_, h.mM.other _ _ (ownOther h.mM.own hra.1 (by decide)) (fun c hc => (h.sepR a c ha hc).symm), h.sepO, h.sepR⟩
  · rw [Below.heap_setCell _ _ _ _ (blockOther h.par hra.1 (by decide))]; exact h.par
  · refine (h.mJ.set (by decide) (b := b) ha (.int .i64 x)).congr fun c d _ _ => ?_
    split <;> rfl
theorem Ord.setM (h : Ord W0 w p n kL kJ kM vL vJ vM rl rj rm R J M) {a : Nat} (b : Nat) (ha : a < kM) (x : Int) :
    Ord W0 (w.setCell ⟨rm a, b, none⟩ (.int .i64 x)) p n kL kJ kM vL vJ vM rl rj rm R J (fun c d => if c = a ∧ d = b then x else M c d) := by
  have hra := h.mM.row a ha
  refine ⟨h.below.setCell hra.2 _, h.pn, ?_, h.mL.other _ _ (ownOther h.mL.own hra.1 (by decide)) (fun c hc => blockOther (h.mL.row c hc).1 hra.1 (by decide)), h.mJ.other _ _ (ownOther h.mJ.own hra.1 (by decide)) (fun c hc => h.sepR c a hc ha), ?_, h.sepO, h.sepR⟩
  · rw [Below.heap_setCell _ _ _ _ (blockOther h.par hra.1 (by decide))]; exact h.par
  · refine (h.mM.set (by decide) (b := b) ha (.int .i64 x)).congr fun c d _ _ => ?_
    split <;> rfl
theorem Ord.readR (h : Ord W0 w p n n kJ kM vL vJ vM rl rj rm R J M) (h0 : 0 < n) : RefAt w p n R := by
  obtain ⟨bo, c, rfl, hc⟩ := h.mL.cells h0
  exact ⟨h.cells.1, bo, c, h.cells.2.1, fun a ha => ⟨rl a, n, (hc a ha).1, fun b hb => (hc a ha).2.2 b hb⟩⟩

/-- What a growing slice leaves of a matrix of another kind. -/
theorem Mx.grown {w2 w5 : World} {B n k m : Nat} {v u : Value} {eo ei e2 : TypeId} {r : Nat → Nat} {F : Nat → Nat → Value} {xs : List Value} (h : Mx w B n k v eo ei r F) (hw : ∀ j, j < w.heap.size → w2.heap[j]? = w.heap[j]?) (hs : w.heap.size ≤ w2.heap.size)
    (hu : w.ownsRow B e2 1 u m xs) (hg : w2.grownBy w5 u.ownBlock) (h1 : ∀ g, v.ownBlock = some g → u.ownBlock ≠ some g) (he : e2 ≠ ei) : Mx w5 B n k v eo ei r F := by
  refine h.kept (fun j hj => ?_) fun a ha => ?_
  · have hl := (h.ownLt hj).2
    rw [hg.block j (by omega) (fun e => h1 j hj e.symm), hw j hl]
  · have hl := h.lt ha
    rw [hg.block _ (by omega) (fun e => ownOther hu (h.row a ha).1 he e.symm), hw _ hl]

/-- One row more of the order. -/
theorem Ord.pushL {w5 : World} {v' : Value} (h : Ord W0 w p n kL kJ kM vL vJ vM rl rj rm R J M) (lit : Obj)
    (hown : w5.ownsRow W0.heap.size 34 1 v' (kL + 1) (slicesOf rl n kL ++ [.slice (some ⟨w.heap.size, 0, none⟩) n n])) (hg : ((w.alloc (.cells (rowA n fun _ => .bool false) 4)).alloc lit).grownBy w5 vL.ownBlock) :
    Ord W0 (w5.setCell ⟨p, 1, none⟩ v') p n (kL + 1) kJ kM v' vJ vM (fun x => if x = kL then w.heap.size else rl x) rj rm (fun x y => if x = kL then false else R x y) J M := by
  have hw : ∀ j, j < w.heap.size → ((w.alloc (.cells (rowA n fun _ => .bool false) 4)).alloc lit).heap[j]? = w.heap[j]? := fun j hj => by
    rw [Below.heap_alloc _ _ _ (by simp; omega), Below.heap_alloc _ _ _ hj]
  have hs : w.heap.size ≤ ((w.alloc (.cells (rowA n fun _ => .bool false) 4)).alloc lit).heap.size := by simp; omega
  have hB := h.below.size
  have hp5 : w5.heap[p]? = some (.cells #[.int .i64 n, vL, vJ, vM] 38 (0, 0)) := by
    rw [hg.block p (by have := h.plt; omega) (fun e => ownOther h.mL.own h.par (by decide) e.symm), hw p h.plt]
    exact h.par
  have hL := h.mL.push (by decide) hB (fun _ => .bool false) lit hown hg
  have hJ := h.mJ.grown hw hs h.mL.own hg (fun g hg2 e => by
    obtain ⟨c1, e1⟩ := own_blockT h.mL.own e
    exact ownOther h.mJ.own e1 (by decide) hg2) (by decide)
  have hM := h.mM.grown hw hs h.mL.own hg (fun g hg2 e => by
    obtain ⟨c1, e1⟩ := own_blockT h.mL.own e
    exact ownOther h.mM.own e1 (by decide) hg2) (by decide)
  have hb2 : Below W0.heap.size W0 ((w.alloc (.cells (rowA n fun _ => .bool false) 4)).alloc lit) := (h.below.alloc hB _).alloc (by simp; omega) _
  refine ⟨(hb2.grown hg hb2.size (fun j hj => (h.mL.ownLt hj).1)).setCell h.pn _, h.pn, ?_, ?_, hJ.other _ _ (ownOther hJ.own hp5 (by decide)) (fun c hc => blockOther (hJ.row c hc).1 hp5 (by decide)), hM.other _ _ (ownOther hM.own hp5 (by decide)) (fun c hc => blockOther (hM.row c hc).1 hp5 (by decide)), h.sepO, h.sepR⟩
  · simp [World.setCell, Array.getElem?_modify, hp5]
  · refine (hL.other ⟨p, 1, none⟩ v' (ownOther hL.own hp5 (by decide)) (fun c hc => blockOther (hL.row c hc).1 hp5 (by decide))).congr fun c d _ _ => ?_
    split <;> rfl
theorem Ord.pushJ {w5 : World} {v' : Value} (h : Ord W0 w p n kL kJ kM vL vJ vM rl rj rm R J M) (lit : Obj)
    (hown : w5.ownsRow W0.heap.size 39 1 v' (kJ + 1) (slicesOf rj n kJ ++ [.slice (some ⟨w.heap.size, 0, none⟩) n n])) (hg : ((w.alloc (.cells (rowA n fun _ => .int .i64 0) 3)).alloc lit).grownBy w5 vJ.ownBlock)
    (hat : ∀ g, v'.ownBlock = some g → vJ.ownBlock = some g ∨ w.heap.size ≤ g) :
    Ord W0 (w5.setCell ⟨p, 2, none⟩ v') p n kL (kJ + 1) kM vL v' vM rl (fun x => if x = kJ then w.heap.size else rj x) rm R (fun x y => if x = kJ then 0 else J x y) M := by
  have hw : ∀ j, j < w.heap.size → ((w.alloc (.cells (rowA n fun _ => .int .i64 0) 3)).alloc lit).heap[j]? = w.heap[j]? := fun j hj => by
    rw [Below.heap_alloc _ _ _ (by simp; omega), Below.heap_alloc _ _ _ hj]
  have hs : w.heap.size ≤ ((w.alloc (.cells (rowA n fun _ => .int .i64 0) 3)).alloc lit).heap.size := by simp; omega
  have hB := h.below.size
  have hp5 : w5.heap[p]? = some (.cells #[.int .i64 n, vL, vJ, vM] 38 (0, 0)) := by
    rw [hg.block p (by have := h.plt; omega) (fun e => ownOther h.mJ.own h.par (by decide) e.symm), hw p h.plt]
    exact h.par
  have hJ := h.mJ.push (by decide) hB (fun _ => .int .i64 0) lit hown hg
  have hL := h.mL.grown hw hs h.mJ.own hg (fun g hg2 e => by
    obtain ⟨c1, e1⟩ := own_blockT h.mJ.own e
    exact ownOther h.mL.own e1 (by decide) hg2) (by decide)
  have hM := h.mM.grown hw hs h.mJ.own hg (fun g hg2 e => h.sepO g e hg2) (by decide)
  have hb2 : Below W0.heap.size W0 ((w.alloc (.cells (rowA n fun _ => .int .i64 0) 3)).alloc lit) := (h.below.alloc hB _).alloc (by simp; omega) _
  refine ⟨(hb2.grown hg hb2.size (fun j hj => (h.mJ.ownLt hj).1)).setCell h.pn _, h.pn, ?_, hL.other _ _ (ownOther hL.own hp5 (by decide)) (fun c hc => blockOther (hL.row c hc).1 hp5 (by decide)), ?_, hM.other _ _ (ownOther hM.own hp5 (by decide)) (fun c hc => blockOther (hM.row c hc).1 hp5 (by decide)), fun g hg2 e => ?_, fun a a' ha ha' => ?_⟩
  · simp [World.setCell, Array.getElem?_modify, hp5]
  · refine (hJ.other ⟨p, 2, none⟩ v' (ownOther hJ.own hp5 (by decide)) (fun c hc => blockOther (hJ.row c hc).1 hp5 (by decide))).congr fun c d _ _ => ?_
    split <;> rfl
  · rcases hat g hg2 with h3 | h3
    · exact h.sepO g h3 e
    · have := (h.mM.ownLt e).2; omega
  · have hl := h.mM.lt ha'
    by_cases e : a = kJ
    · simp only [if_pos e]; omega
    · simp only [if_neg e]; exact h.sepR a a' (by omega) ha'
theorem Ord.pushM {w5 : World} {v' : Value} (h : Ord W0 w p n kL kJ kM vL vJ vM rl rj rm R J M) (lit : Obj)
    (hown : w5.ownsRow W0.heap.size 39 1 v' (kM + 1) (slicesOf rm n kM ++ [.slice (some ⟨w.heap.size, 0, none⟩) n n])) (hg : ((w.alloc (.cells (rowA n fun _ => .int .i64 0) 3)).alloc lit).grownBy w5 vM.ownBlock)
    (hat : ∀ g, v'.ownBlock = some g → vM.ownBlock = some g ∨ w.heap.size ≤ g) :
    Ord W0 (w5.setCell ⟨p, 3, none⟩ v') p n kL kJ (kM + 1) vL vJ v' rl rj (fun x => if x = kM then w.heap.size else rm x) R J (fun x y => if x = kM then 0 else M x y) := by
  have hw : ∀ j, j < w.heap.size → ((w.alloc (.cells (rowA n fun _ => .int .i64 0) 3)).alloc lit).heap[j]? = w.heap[j]? := fun j hj => by
    rw [Below.heap_alloc _ _ _ (by simp; omega), Below.heap_alloc _ _ _ hj]
  have hs : w.heap.size ≤ ((w.alloc (.cells (rowA n fun _ => .int .i64 0) 3)).alloc lit).heap.size := by simp; omega
  have hB := h.below.size
  have hp5 : w5.heap[p]? = some (.cells #[.int .i64 n, vL, vJ, vM] 38 (0, 0)) := by
    rw [hg.block p (by have := h.plt; omega) (fun e => ownOther h.mM.own h.par (by decide) e.symm), hw p h.plt]
    exact h.par
  have hM := h.mM.push (by decide) hB (fun _ => .int .i64 0) lit hown hg
  have hL := h.mL.grown hw hs h.mM.own hg (fun g hg2 e => by
    obtain ⟨c1, e1⟩ := own_blockT h.mM.own e
    exact ownOther h.mL.own e1 (by decide) hg2) (by decide)
  have hJ := h.mJ.grown hw hs h.mM.own hg (fun g hg2 e => h.sepO g hg2 e) (by decide)
  have hb2 : Below W0.heap.size W0 ((w.alloc (.cells (rowA n fun _ => .int .i64 0) 3)).alloc lit) := (h.below.alloc hB _).alloc (by simp; omega) _
  refine ⟨(hb2.grown hg hb2.size (fun j hj => (h.mM.ownLt hj).1)).setCell h.pn _, h.pn, ?_, hL.other _ _ (ownOther hL.own hp5 (by decide)) (fun c hc => blockOther (hL.row c hc).1 hp5 (by decide)), hJ.other _ _ (ownOther hJ.own hp5 (by decide)) (fun c hc => blockOther (hJ.row c hc).1 hp5 (by decide)), ?_, fun g hg2 e => ?_, fun a a' ha ha' => ?_⟩
  · simp [World.setCell, Array.getElem?_modify, hp5]
  · refine (hM.other ⟨p, 3, none⟩ v' (ownOther hM.own hp5 (by decide)) (fun c hc => blockOther (hM.row c hc).1 hp5 (by decide))).congr fun c d _ _ => ?_
    split <;> rfl
  · rcases hat g e with h3 | h3
    · exact h.sepO g hg2 h3
    · have := (h.mJ.ownLt hg2).2; omega
  · have hl := h.mJ.lt ha
    by_cases e : a' = kM
    · simp only [if_pos e]; omega
    · simp only [if_neg e]; exact h.sepR a a' ha (by omega)
end

end Go.Proofs.Ytehfjlonpnanoaa
