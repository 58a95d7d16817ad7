/-
  The texts AddKeep, FoldLaw, Alive11, BkNil, BkSpec, BkSame, AppKeep, BkKept, BkStill, BkLists, OneByte, BkName, BkPut, FirstLoad, BkMarked, BkGrow, BkApart, one behind the other.
-/
import Derived.Test.YtnlmfoccdmkncaaGreatDoorDefB
import Derived.Deep.RegionLaw
import Derived.Deep.Slices
import Derived.ChangeArms
import Derived.Test.YtnlmfoccdmkncaaGreatDoorRows
import Derived.WalkKit
import Derived.Deep.QuietTactic
import Derived.BigQuiet
import Derived.Laws.Rows
import Derived.Laws.IdiomStrings
import Derived.IntWalk
import Derived.RegionTactic
import Derived.Deep.AppendLies
import Derived.BigRegion
import Derived.OrdersHeld

/-
  define.Table.Add, and what it leaves as it was; a table of definitions that came in.
-/
namespace Go.Proofs.YtnlmfoccdmkncaaGreatDoor
open Go.RowKit
set_option maxRecDepth 100000
set_option linter.unusedVariables false
set_option linter.unusedSimpArgs false

set_option maxHeartbeats 8000000 in
theorem add_keep (B b : Nat) (sv : Value) (ds : List DefL) (d : DefL) (w : World) (hBb : B ≤ b) (hb : w.heap[b]? = some (.cells #[sv] 48 (0, 0))) (ho : w.ownsRow B 26 5 sv ds.length (defCells ds)) (hl : ds.length ≤ 1000000000) :
    Calls Tryz.prog 15 #[.pointer (some ⟨b, 0, none⟩), d.val] w fun e w' => e = .returned (.bool (addL ds d).2) ∧ ∃ sv', w'.heap[b]? = some (.cells #[sv'] 48 (0, 0)) ∧ w'.ownsRow B 26 5 sv' (addL ds d).1.length (defCells (addL ds d).1) ∧ Below B w w' ∧ (∀ k, k < w.heap.size → k ≠ b → some k ≠ sv.ownBlock → w'.heap[k]? = w.heap[k]?) ∧ (sv'.ownBlock = sv.ownBlock ∨ ∃ g, sv'.ownBlock = some g ∧ w.heap.size ≤ g) := by
  obtain ⟨i0, hi, hz0, hz1, hz2⟩ := info_parts infoDef
  have hbl : b < w.heap.size := (Array.getElem?_eq_some_iff.1 hb).1
  have hb1 : Below w.heap.size w (w.alloc (.cells #[.string ⟨d.name.toArray⟩, .string ⟨d.url.toArray⟩, .string ⟨d.title.toArray⟩, .string ⟨d.text.toArray⟩, .bool d.note] 26)) := (Below.refl _ w).alloc (Nat.le_refl _) _
  have hh1 := (hb1.block b hbl).trans hb
  have ho1 := own_below ho hb1
  have hf := find_at b sv ds d.name d.note _ hh1 (own_mono ho1 (Nat.zero_le _)) hl
  have hk0 : (w.alloc (.cells #[.string ⟨d.name.toArray⟩, .string ⟨d.url.toArray⟩, .string ⟨d.title.toArray⟩, .string ⟨d.text.toArray⟩, .bool d.note] 26)).heap[w.heap.size]? = some (.cells #[.string ⟨d.name.toArray⟩, .string ⟨d.url.toArray⟩, .string ⟨d.title.toArray⟩, .string ⟨d.text.toArray⟩, .bool d.note] 26 (0, 0)) := heap_alloc_new w _
  have HF := Lib.hid hf
  have HX := Lib.hid (And.intro hb1 (And.intro hh1 (And.intro ho1 hk0)))
  have hnr : (some w.heap.size : Option Nat) ≠ sv.ownBlock := fun h => by have := (World.ownsRow.lt ho w.heap.size h.symm).2; omega
  clear hf hb1 hh1 ho1 hk0 ho hb
  show Calls Tryz.prog _ #[_, .agg #[.string ⟨d.name.toArray⟩, .string ⟨d.url.toArray⟩, .string ⟨d.title.toArray⟩, .string ⟨d.text.toArray⟩, .bool d.note]] w _
  go_enter Tryz.func15, Tryz.ntmps15
  go_wp2_with fail
  refine HF.out.mono ?_
  rintro e w2 ⟨n, rfl, hpost, b2⟩
  obtain ⟨hb1, hh1, ho1, hk0⟩ := HX.out
  have hB2 := below_step hb1 b2
  have hh2 := (b2.block b (by have := hb1.size; omega)).trans hh1
  have ho2 := own_below ho1 b2
  have hk2 := (b2.block _ (Array.getElem?_eq_some_iff.1 hk0).1).trans hk0
  clear HF HX hb1 hh1 ho1 hk0 b2
  rcases hpost with ⟨rfl, hlk⟩ | ⟨k, d2, rfl, hk, hd, hlk⟩
  · have HA := Lib.hid (show addL ds d = (ds ++ [d], true) by unfold addL; rw [hlk]; rfl)
    obtain ⟨sao, scap, hsv, _⟩ := own_slice ho2
    subst hsv
    have p0 := TabAt.cell hh2
    have hbl2 : b < w2.heap.size := (Array.getElem?_eq_some_iff.1 hh2).1
    have hdl2 : w.heap.size < w2.heap.size := (Array.getElem?_eq_some_iff.1 hk2).1
    obtain ⟨c0, c1, c2, c3, c4⟩ : w2.cell? ⟨w.heap.size, 0, none⟩ = some (.string ⟨d.name.toArray⟩) ∧ w2.cell? ⟨w.heap.size, 1, none⟩ = some (.string ⟨d.url.toArray⟩) ∧ w2.cell? ⟨w.heap.size, 2, none⟩ = some (.string ⟨d.title.toArray⟩) ∧ w2.cell? ⟨w.heap.size, 3, none⟩ = some (.string ⟨d.text.toArray⟩) ∧ w2.cell? ⟨w.heap.size, 4, none⟩ = some (.bool d.note) := by
      refine ⟨?_, ?_, ?_, ?_, ?_⟩ <;> (rw [cell_of_row w2 w.heap.size _ _ _ _ hk2]; rfl)
    have b2a := (Below.refl w2.heap.size w2).alloc (Nat.le_refl _) (.cells #[.string ⟨d.name.toArray⟩, .string ⟨d.url.toArray⟩, .string ⟨d.title.toArray⟩, .string ⟨d.text.toArray⟩, .bool d.note] 26)
    have p0a := (b2a.cell (p := ⟨b, 0, none⟩) hbl2).trans p0
    have a0 := (b2a.cell (p := ⟨w.heap.size, 0, none⟩) hdl2).trans c0
    have a1 := (b2a.cell (p := ⟨w.heap.size, 1, none⟩) hdl2).trans c1
    have a2 := (b2a.cell (p := ⟨w.heap.size, 2, none⟩) hdl2).trans c2
    have a3 := (b2a.cell (p := ⟨w.heap.size, 3, none⟩) hdl2).trans c3
    have a4 := (b2a.cell (p := ⟨w.heap.size, 4, none⟩) hdl2).trans c4
    have hoA := own_below ho2 b2a
    have hhA := (b2a.block b hbl2).trans hh2
    have hkA := (b2a.block w.heap.size hdl2).trans hk2
    have hBA := (hB2.mono (show B ≤ w.heap.size by omega)).trans (b2a.mono (show B ≤ w2.heap.size by omega))
    have hlA : w2.heap.size < (w2.alloc (.cells #[.string ⟨d.name.toArray⟩, .string ⟨d.url.toArray⟩, .string ⟨d.title.toArray⟩, .string ⟨d.text.toArray⟩, .bool d.note] 26)).heap.size := by simp
    have hnews := cells_new w2 [.string ⟨d.name.toArray⟩, .string ⟨d.url.toArray⟩, .string ⟨d.title.toArray⟩, .string ⟨d.text.toArray⟩, .bool d.note] 26 w2.heap.size rfl
    have hob : (some b : Option Nat) ≠ (Value.slice sao ds.length scap).ownBlock := own_other hoA hhA (by decide)
    have hbne : ¬ w.heap.size = b := by omega
    have hbA : ∀ k, k < w2.heap.size → (w2.alloc (.cells #[.string ⟨d.name.toArray⟩, .string ⟨d.url.toArray⟩, .string ⟨d.title.toArray⟩, .string ⟨d.text.toArray⟩, .bool d.note] 26)).heap[k]? = w2.heap[k]? := fun k hk => b2a.block k hk
    obtain ⟨WA, hWA⟩ : ∃ W, w2.alloc (.cells #[.string ⟨d.name.toArray⟩, .string ⟨d.url.toArray⟩, .string ⟨d.title.toArray⟩, .string ⟨d.text.toArray⟩, .bool d.note] 26) = W := ⟨_, rfl⟩
    have HA2 := Lib.hid (And.intro hoA (And.intro hhA (And.intro hkA (And.intro hBA (And.intro hnews (And.intro hob hbA))))))
    clear hlk hoA hhA hkA hBA hnews hob hbA hWA WA b2a
    go_wp2_with fail
    go_region_law
      ((refine step_append_lies _ rfl (.tmp 20) (.tmp 22) 40 rfl B 26 i0 (.agg #[.string ⟨#[]⟩, .string ⟨#[]⟩, .string ⟨#[]⟩, .string ⟨#[]⟩, .bool false]) 5 72 Tryz.underlying40 hi hz0 hz1 hz2 rfl (by decide) (.slice sao ds.length scap) ds.length (defCells ds) rfl HA2.out.1 ⟨w2.heap.size, 0, none⟩ 1 1 [.string ⟨d.name.toArray⟩, .string ⟨d.url.toArray⟩, .string ⟨d.title.toArray⟩, .string ⟨d.text.toArray⟩, .bool d.note] rfl rfl HA2.out.2.2.2.2.1 (def_oneCell d) (by decide) (by unfold maxLen; omega) (by omega) ?_ _ rfl ?_
        · exact Nat.le_of_lt (Nat.lt_of_le_of_lt (show B ≤ w2.heap.size by omega) hlA)
        intro g cap w5 hown5 hgrow5 hat5 hlt5
        have hk5 := (hgrow5.block w.heap.size (Nat.lt_trans hdl2 hlA) hnr).trans HA2.out.2.2.1
        have hh5 := (hgrow5.block b (Nat.lt_trans hbl2 hlA) HA2.out.2.2.2.2.2.1).trans HA2.out.2.1
        have g0 := heap_cell a0 (hk5.trans HA2.out.2.2.1.symm)
        have g1 := heap_cell a1 (hk5.trans HA2.out.2.2.1.symm)
        have g2 := heap_cell a2 (hk5.trans HA2.out.2.2.1.symm)
        have g3 := heap_cell a3 (hk5.trans HA2.out.2.2.1.symm)
        have g4 := heap_cell a4 (hk5.trans HA2.out.2.2.1.symm)
        have p5 := TabAt.cell hh5
        have f5 := frozen_of_row w5 b 0 _ _ hh5
        have kk := Below.heap_setCell w5 ⟨b, 0, none⟩ (.slice (some ⟨g, 0, none⟩) (ds.length + 1) cap) w.heap.size hbne
        have k0 := heap_cell g0 kk
        have k1 := heap_cell g1 kk
        have k2 := heap_cell g2 kk
        have k3 := heap_cell g3 kk
        have k4 := heap_cell g4 kk))
    all_goals
      go_wp2_with fail
      go_ret
      refine ⟨by rw [HA.out]; rfl, .slice (some ⟨g, 0, none⟩) (ds.length + 1) cap, heap_setCell_same w5 b 0 _ _ _ hh5, ?_, (HA2.out.2.2.2.1.drew.grown hgrow5 (Nat.le_of_lt (Nat.lt_of_le_of_lt (show B ≤ w2.heap.size by omega) hlA)) (fun j hj => (HA2.out.1.lt j hj).1)).setCell (p := ⟨b, 0, none⟩) hBb _, fun k hk hkb hks => ?_, ?_⟩
      · rw [HA.out]
        rw [show (ds ++ [d]).length = ds.length + 1 by simp, defCells_snoc]
        exact own_setCell (a := ⟨b, 0, none⟩) hown5 hh5 (by decide) _
      · have hk2 : k < w2.heap.size := Nat.lt_of_lt_of_le hk hB2.size
        rw [Below.heap_setCell _ _ _ _ hkb, hgrow5.block k (Nat.lt_trans hk2 hlA) hks]
        exact (HA2.out.2.2.2.2.2.2 k hk2).trans (hB2.block k hk)
      · rcases hat5 with h | h
        · exact Or.inl (by rw [h]; rfl)
        · refine Or.inr ⟨g, rfl, ?_⟩
          have := hB2.size
          have h3 : (w2.alloc (.cells #[.string ⟨d.name.toArray⟩, .string ⟨d.url.toArray⟩, .string ⟨d.title.toArray⟩, .string ⟨d.text.toArray⟩, .bool d.note] 26)).drew.heap.size = g := h.symm
          have h4 : (w2.alloc (.cells #[.string ⟨d.name.toArray⟩, .string ⟨d.url.toArray⟩, .string ⟨d.title.toArray⟩, .string ⟨d.text.toArray⟩, .bool d.note] 26)).drew.heap.size = w2.heap.size + 1 := by simp
          omega
  · have HA := Lib.hid (show addL ds d = (ds, false) by unfold addL; rw [hlk]; rfl)
    have hk0 : (0 : Int) ≤ (k : Int) := by omega
    clear hlk hd
    go_wp2_with fail
    go_ret
    exact ⟨by rw [HA.out]; rfl, sv, hh2, by rw [HA.out]; exact ho2, hB2.mono (by omega), fun k hk _ _ => hB2.block k hk, Or.inl rfl⟩

end Go.Proofs.YtnlmfoccdmkncaaGreatDoor

/-
  repair.Fold: folded again it stays; blanks around a text are as none. Plain facts, no program in sight.
-/
namespace Go.Proofs.YtnlmfoccdmkncaaGreatDoor
open Go.RowKit
set_option maxRecDepth 100000
set_option linter.unusedVariables false
set_option linter.unusedSimpArgs false

/-! ### what a decoding depends on -/
def isCont (b : UInt8) : Bool := b.toNat / 64 == 2
def conts (l : List UInt8) : List UInt8 := l.takeWhile isCont
theorem conts_cons (b : UInt8) (l : List UInt8) : conts (b :: l) = if isCont b then b :: conts l else [] := by
  unfold conts; rw [List.takeWhile_cons]
theorem conts_nil : conts [] = [] := rfl

theorem decodeN_same (n n' b0 b1 b2 b3 c1 c2 c3 : Nat)
    (h1 : (1 < n ∧ b1 / 64 = 2) ↔ (1 < n' ∧ c1 / 64 = 2)) (e1 : (1 < n ∧ b1 / 64 = 2) → b1 = c1)
    (h2 : (1 < n ∧ b1 / 64 = 2) → ((2 < n ∧ b2 / 64 = 2) ↔ (2 < n' ∧ c2 / 64 = 2))) (e2 : (1 < n ∧ b1 / 64 = 2) → (2 < n ∧ b2 / 64 = 2) → b2 = c2)
    (h3 : (1 < n ∧ b1 / 64 = 2) → (2 < n ∧ b2 / 64 = 2) → ((3 < n ∧ b3 / 64 = 2) ↔ (3 < n' ∧ c3 / 64 = 2))) (e3 : (1 < n ∧ b1 / 64 = 2) → (2 < n ∧ b2 / 64 = 2) → (3 < n ∧ b3 / 64 = 2) → b3 = c3) :
    Lib.decodeN n b0 b1 b2 b3 = Lib.decodeN n' b0 c1 c2 c3 := by
  unfold Lib.decodeN
  by_cases A : 1 < n ∧ b1 / 64 = 2
  · have A' := h1.1 A
    have k1 := e1 A
    have h2 := h2 A
    have e2 := e2 A
    have h3 := h3 A
    have e3 := e3 A
    by_cases B : 2 < n ∧ b2 / 64 = 2
    · have B' := h2.1 B
      have k2 := e2 B
      have h3 := h3 B
      have e3 := e3 B
      by_cases C : 3 < n ∧ b3 / 64 = 2
      · have C' := h3.1 C
        have k3 := e3 C
        simp only [A, A', B, B', C, C', and_self, and_true, true_and]
        rw [← k1, ← k2, ← k3]
      · have C' : ¬ (3 < n' ∧ c3 / 64 = 2) := fun h => C (h3.2 h)
        simp only [C, C']
        simp only [A, A', B, B', and_self, and_true, true_and, and_false, if_false]
        rw [← k1, ← k2]
    · have B' : ¬ (2 < n' ∧ c2 / 64 = 2) := fun h => B (h2.2 h)
      simp only [B, B']
      simp only [A, A', and_self, and_true, true_and, and_false, false_and, if_false]
      rw [← k1]
  · have A' : ¬ (1 < n' ∧ c1 / 64 = 2) := fun h => A (h1.2 h)
    simp only [A, A', and_false, false_and, if_false]

def ContAt (z : List UInt8) (i : Nat) : Prop := i < z.length ∧ (z.getD i 0).toNat / 64 = 2
theorem cont0 : ∀ z : List UInt8, ContAt z 0 ↔ 0 < (conts z).length
  | [] => by simp [ContAt, conts_nil]
  | a :: z => by
    rw [conts_cons]
    unfold ContAt isCont
    by_cases h : a.toNat / 64 = 2 <;> simp [h]
theorem contS (a : UInt8) (z : List UInt8) (i : Nat) : ContAt (a :: z) (i + 1) ↔ ContAt z i := by
  unfold ContAt
  simp
theorem cont1 : ∀ z : List UInt8, ContAt z 0 → (ContAt z 1 ↔ 1 < (conts z).length)
  | [], h => by simp [ContAt] at h
  | a :: z, h => by
    have ha : isCont a = true := by unfold ContAt at h; simp at h; simp [isCont, h]
    rw [contS, cont0, conts_cons, if_pos ha, List.length_cons]
    omega
theorem cont2 : ∀ z : List UInt8, ContAt z 0 → ContAt z 1 → (ContAt z 2 ↔ 2 < (conts z).length)
  | [], h, _ => by simp [ContAt] at h
  | a :: z, h, h' => by
    have ha : isCont a = true := by unfold ContAt at h; simp at h; simp [isCont, h]
    rw [contS] at h' ⊢
    rw [cont1 z h', conts_cons, if_pos ha, List.length_cons]
    omega
theorem cont_get : ∀ (z : List UInt8) (i : Nat), i < (conts z).length → z.getD i 0 = (conts z).getD i 0
  | [], i, h => by simp [conts_nil] at h
  | a :: z, i, h => by
    rw [conts_cons] at h ⊢
    by_cases ha : isCont a = true
    · rw [if_pos ha] at h ⊢
      cases i with
      | zero => rfl
      | succ i => simpa using cont_get z i (by simpa using h)
    · rw [if_neg ha] at h; simp at h

theorem decode_conts (b : UInt8) (z y : List UInt8) (h : conts z = conts y) : Lib.decodeL (b :: z) = Lib.decodeL (b :: y) := by
  rw [Lib.decodeL_N, Lib.decodeL_N]
  simp only [List.getD_cons_zero, List.getD_cons_succ, List.length_cons]
  have f : ∀ (u : List UInt8) (i : Nat), (i + 1 < u.length + 1 ∧ (u.getD i 0).toNat / 64 = 2) ↔ ContAt u i := fun u i => by unfold ContAt; simp
  have g : ∀ i, i < (conts z).length → z.getD i 0 = y.getD i 0 := fun i hi => by rw [cont_get z i hi, h, cont_get y i (by rw [← h]; exact hi)]
  refine decodeN_same _ _ _ _ _ _ _ _ _ ?_ ?_ ?_ ?_ ?_ ?_
  · rw [f z 0, f y 0, cont0, cont0, h]
  · intro a
    rw [f z 0] at a
    rw [g 0 ((cont0 z).1 a)]
  · intro a
    rw [f z 0] at a
    have a' : ContAt y 0 := by rw [cont0] at a ⊢; rw [← h]; exact a
    rw [f z 1, f y 1, cont1 z a, cont1 y a', h]
  · intro a b'
    rw [f z 0] at a
    rw [f z 1] at b'
    rw [g 1 ((cont1 z a).1 b')]
  · intro a b'
    rw [f z 0] at a
    rw [f z 1] at b'
    have a' : ContAt y 0 := by rw [cont0] at a ⊢; rw [← h]; exact a
    have b'' : ContAt y 1 := by rw [cont1 z a] at b'; rw [cont1 y a', ← h]; exact b'
    rw [f z 2, f y 2, cont2 z a b', cont2 y a' b'', h]
  · intro a b' c'
    rw [f z 0] at a
    rw [f z 1] at b'
    rw [f z 2] at c'
    rw [g 2 ((cont2 z a b').1 c')]

theorem conts_append : ∀ (c x : List UInt8), (∀ b ∈ c, isCont b = true) → conts (c ++ x) = c ++ conts x
  | [], x, _ => rfl
  | b :: c, x, h => by
    rw [List.cons_append, conts_cons, if_pos (h b (List.mem_cons_self ..)), conts_append c x (fun y hy => h y (List.mem_cons_of_mem _ hy))]
    rfl
theorem conts_blank : ∀ (z : List UInt8) (x : UInt8) (y : List UInt8), isCont x = false → conts (z ++ x :: y) = conts z
  | [], x, y, h => by rw [List.nil_append, conts_cons, h]; rfl
  | b :: z, x, y, h => by
    rw [List.cons_append, conts_cons, conts_cons, conts_blank z x y h]

/-- Of a rune's bytes all but the first are continuations; where there are two and more, the first is none. -/
theorem width_conts (b : UInt8) (z : List UInt8) : (∀ x ∈ z.take ((Lib.decodeL (b :: z)).2 - 1), isCont x = true) ∧ (2 ≤ (Lib.decodeL (b :: z)).2 → isCont b = false) := by
  have hw := Lib.decodeL_N (b :: z)
  have hc := Lib.decodeN_conts (b :: z).length ((b :: z).getD 0 0).toNat ((b :: z).getD 1 0).toNat ((b :: z).getD 2 0).toNat ((b :: z).getD 3 0).toNat
  rw [← hw] at hc
  simp only [List.getD_cons_zero, List.getD_cons_succ, List.length_cons] at hc
  obtain ⟨c1, c2, c3, c4⟩ := hc
  have h1 := Lib.decodeL_width (b :: z)
  refine ⟨fun x hx => ?_, fun h => ?_⟩
  · obtain ⟨i, hi, rfl⟩ := List.mem_iff_getElem.1 hx
    rw [List.length_take] at hi
    have hd : z.getD i 0 = (z.take ((Lib.decodeL (b :: z)).2 - 1))[i] := by
      rw [List.getElem_take, List.getD_eq_getElem?_getD, List.getElem?_eq_getElem (by omega)]; rfl
    rw [← hd]
    have : i = 0 ∨ i = 1 ∨ i = 2 := by omega
    unfold isCont
    rcases this with rfl | rfl | rfl
    · rw [(c1 (by omega)).1]; rfl
    · rw [(c2 (by omega)).1]; rfl
    · rw [(c3 (by omega)).1]; rfl
  · unfold isCont
    rw [beq_eq_false_iff_ne]
    intro e
    rw [hw] at h
    simp only [List.getD_cons_zero] at h
    rw [Lib.decodeN_cont _ _ _ _ _ e] at h
    simp at h

/-! ### what Fold emits -/
def chunk (l : List UInt8) : List UInt8 := if inSps (Lib.decodeL l).1 upSps then Lib.encodeRune ((Lib.decodeL l).1 + 32 : Int) else l.take (Lib.decodeL l).2
theorem chunk_eq (l : List UInt8) : chunk l = if inSps (Lib.decodeL l).1 upSps then Lib.encodeRune ((Lib.decodeL l).1 + 32 : Int) else l.take (Lib.decodeL l).2 := rfl
def foldO : Nat → List UInt8 → Bool → Bool → List UInt8
  | 0, _, _, _ => []
  | n + 1, l, sp, st =>
    if l = [] then []
    else if inSps (Lib.decodeL l).1 spaceSps then foldO n (l.drop (Lib.decodeL l).2) true st
    else (if sp && st then [32] else []) ++ (chunk l ++ foldO n (l.drop (Lib.decodeL l).2) false true)

theorem foldO_nil (n : Nat) (sp st : Bool) : foldO n [] sp st = [] := by cases n <;> simp [foldO]

theorem up_range {r : Nat} (h : inSps (r : Int) upSps = true) : (65 ≤ r ∧ r ≤ 90) ∨ (192 ≤ r ∧ r ≤ 222) := by
  unfold inSps inSp upSps at h
  simp at h
  omega
theorem up_char {r : Nat} (h : inSps (r : Int) upSps = true) : ((65 ≤ r ∧ r ≤ 90) ∨ (192 ≤ r ∧ r ≤ 222)) ∧ r ≠ 215 := by
  unfold inSps inSp upSps at h
  simp at h
  omega
/-- A great letter's small one: its bytes, and how they are read. -/
theorem small_ascii (r : Nat) (h : 65 ≤ r ∧ r ≤ 90) : Lib.encodeRune ((r : Int) + 32) = [UInt8.ofNat (r + 32)] := by
  have : ∀ i : Fin 26, Lib.encodeRune (((65 + i.val : Nat) : Int) + 32) = [UInt8.ofNat (65 + i.val + 32)] := by decide +kernel
  have k := this ⟨r - 65, by omega⟩
  simp only at k
  rw [show 65 + (r - 65) = r by omega] at k
  exact k
theorem small_latin (r : Nat) (h : 192 ≤ r ∧ r ≤ 222) : Lib.encodeRune ((r : Int) + 32) = [195, UInt8.ofNat (r - 32)] := by
  have : ∀ i : Fin 31, Lib.encodeRune (((192 + i.val : Nat) : Int) + 32) = [195, UInt8.ofNat (192 + i.val - 32)] := by decide +kernel
  have k := this ⟨r - 192, by omega⟩
  simp only at k
  rw [show 192 + (r - 192) = r by omega] at k
  exact k
theorem decode_latin (k : Nat) (y : List UInt8) (h : 160 ≤ k ∧ k ≤ 190) : Lib.decodeL (195 :: UInt8.ofNat k :: y) = (k + 64, 2) := by
  rw [Lib.decodeL_N]
  simp only [List.getD_cons_zero, List.getD_cons_succ, List.length_cons]
  have hk : (UInt8.ofNat k).toNat = k := by rw [UInt8.toNat_ofNat']; omega
  rw [hk]
  unfold Lib.decodeN
  rw [if_neg (by decide), if_pos ⟨by decide, by omega, by omega⟩, if_pos (by simp; omega)]
  simp; omega
theorem up_decode {r : Nat} (h : inSps (r : Int) upSps = true) (y : List UInt8) : Lib.decodeL (Lib.encodeRune ((r : Int) + 32) ++ y) = (r + 32, (Lib.encodeRune ((r : Int) + 32)).length) ∧
    inSps ((r + 32 : Nat) : Int) upSps = false ∧ inSps ((r + 32 : Nat) : Int) spaceSps = false ∧ conts (Lib.encodeRune ((r : Int) + 32) ++ y) = [] ∧ Lib.encodeRune ((r : Int) + 32) ≠ [] := by
  obtain ⟨hr, h5⟩ := up_char h
  refine ⟨?_, ?_, ?_, ?_, ?_⟩
  · rcases hr with hr | hr
    · rw [small_ascii r hr]
      have hk : (UInt8.ofNat (r + 32)).toNat = r + 32 := by rw [UInt8.toNat_ofNat']; omega
      rw [List.cons_append, List.nil_append, Lib.decodeL_ascii _ _ (by omega), hk]
      rfl
    · rw [small_latin r hr, List.cons_append, List.cons_append, List.nil_append, decode_latin _ _ (by omega)]
      simp; omega
  · unfold inSps inSp upSps; simp; omega
  · unfold inSps inSp spaceSps; simp; omega
  · rcases hr with hr | hr
    · rw [small_ascii r hr, List.cons_append, conts_cons, if_neg]
      unfold isCont
      rw [UInt8.toNat_ofNat']
      simp; omega
    · rw [small_latin r hr, List.cons_append, conts_cons, if_neg (by decide)]
  · rcases hr with hr | hr
    · rw [small_ascii r hr]; simp
    · rw [small_latin r hr]; simp

theorem chunk_ne (l : List UInt8) (h : l ≠ []) : chunk l ≠ [] := by
  unfold chunk
  split
  · rename_i hu; exact (up_decode hu []).2.2.2.2
  · have := Lib.decodeL_width l
    cases l with
    | nil => exact absurd rfl h
    | cons b z => rw [List.take_cons (by omega)]; simp

theorem foldGo_out : ∀ (n : Nat) (l : List UInt8) (sp : Bool) (acc : List UInt8), foldGo n l sp acc = acc ++ foldO n l sp (decide (0 < acc.length))
  | 0, l, sp, acc => by simp [foldGo, foldO]
  | n + 1, l, sp, acc => by
    rw [foldGo, foldO]
    by_cases hl : l = []
    · rw [if_pos hl, if_pos hl, List.append_nil]
    · rw [if_neg hl, if_neg hl]
      by_cases hs : inSps (Lib.decodeL l).1 spaceSps = true
      · rw [if_pos hs, if_pos hs, foldGo_out n]
      · rw [if_neg hs, if_neg hs, foldGo_out n]
        have hc := chunk_ne l hl
        have e : (if inSps (Lib.decodeL l).1 upSps then Lib.encodeRune ((Lib.decodeL l).1 + 32 : Int) else l.take (Lib.decodeL l).2) = chunk l := rfl
        rw [e]
        have hp : decide (0 < ((if (sp && decide (0 < acc.length)) = true then acc ++ [32] else acc) ++ chunk l).length) = true := by
          rw [decide_eq_true_eq, List.length_append]
          have := List.length_pos_iff.2 hc
          omega
        rw [hp]
        cases sp && decide (0 < acc.length) <;> simp
theorem fold_out (l : List UInt8) : fold l = foldO l.length l false false := by
  unfold fold
  rw [foldGo_out]
  rfl

theorem foldO_fuel : ∀ (n m : Nat) (l : List UInt8) (sp st : Bool), l.length ≤ n → l.length ≤ m → foldO n l sp st = foldO m l sp st
  | n, m, [], sp, st, _, _ => by rw [foldO_nil, foldO_nil]
  | 0, m, b :: z, sp, st, h, _ => by simp at h
  | n + 1, 0, b :: z, sp, st, _, h => by simp at h
  | n + 1, m + 1, b :: z, sp, st, h, h' => by
    have hw := Lib.decodeL_width (b :: z)
    have hd : ((b :: z).drop (Lib.decodeL (b :: z)).2).length ≤ n ∧ ((b :: z).drop (Lib.decodeL (b :: z)).2).length ≤ m := by
      rw [List.length_drop]; simp only [List.length_cons] at *; omega
    rw [foldO, foldO, foldO_fuel n m _ true st hd.1 hd.2, foldO_fuel n m _ false true hd.1 hd.2]

/-- Where nothing stands yet, a blank ahead counts for nothing. -/
theorem foldO_start (n : Nat) (l : List UInt8) : foldO n l true false = foldO n l false false := by
  cases n with
  | zero => rfl
  | succ n => simp [foldO]

theorem space_head (b : UInt8) (z : List UInt8) (h : inSps (Lib.decodeL (b :: z)).1 spaceSps = true) : isCont b = false := by
  cases hb : isCont b with
  | false => rfl
  | true =>
    have e : b.toNat / 64 = 2 := by unfold isCont at hb; simpa using hb
    rw [Lib.decodeL_N] at h
    simp only [List.getD_cons_zero] at h
    rw [Lib.decodeN_cont _ _ _ _ _ e] at h
    exact absurd h (by decide)
theorem up_head (b : UInt8) (z : List UInt8) (h : inSps (Lib.decodeL (b :: z)).1 upSps = true) : isCont b = false := by
  cases hb : isCont b with
  | false => rfl
  | true =>
    have e : b.toNat / 64 = 2 := by unfold isCont at hb; simpa using hb
    rw [Lib.decodeL_N] at h
    simp only [List.getD_cons_zero] at h
    rw [Lib.decodeN_cont _ _ _ _ _ e] at h
    exact absurd h (by decide)

/-- The continuations at the head stay. -/
theorem fold_conts_blank : ∀ (n : Nat) (l : List UInt8), conts (foldO n l true true) = []
  | 0, l => rfl
  | n + 1, l => by
    rw [foldO]
    split
    · rfl
    · split
      · exact fold_conts_blank n _
      · simp [conts_cons, isCont]
theorem fold_conts : ∀ (n : Nat) (l : List UInt8), l.length ≤ n → conts (foldO n l false true) = conts l
  | n, [], _ => by rw [foldO_nil]
  | 0, b :: z, h => by simp at h
  | n + 1, b :: z, h => by
    have hw := Lib.decodeL_width (b :: z)
    rw [foldO, if_neg (by simp)]
    by_cases hs : inSps (Lib.decodeL (b :: z)).1 spaceSps = true
    · rw [if_pos hs, fold_conts_blank, conts_cons, space_head b z hs]
      rfl
    · rw [if_neg hs]
      simp only [Bool.false_and, Bool.false_eq_true, if_false, List.nil_append]
      by_cases hu : inSps (Lib.decodeL (b :: z)).1 upSps = true
      · unfold chunk
        rw [if_pos hu, (up_decode hu _).2.2.2.1, conts_cons, up_head b z hu]
        rfl
      · unfold chunk
        rw [if_neg hu, List.take_cons (by omega), List.cons_append, conts_cons, conts_cons]
        by_cases hb : isCont b = true
        · have h2 : ¬ 2 ≤ (Lib.decodeL (b :: z)).2 := fun h2 => by rw [(width_conts b z).2 h2] at hb; cases hb
          have e1 : (Lib.decodeL (b :: z)).2 = 1 := by omega
          rw [if_pos hb, if_pos hb, e1]
          simp only [Nat.sub_self, List.take_zero, List.nil_append, List.drop_succ_cons, List.drop_zero]
          rw [fold_conts n z (by simpa using h)]
        · rw [if_neg hb, if_neg hb]

/-- A chunk is read in the result as it was written. -/
theorem chunk_read (n : Nat) (b : UInt8) (z : List UInt8) (hn : (b :: z).length ≤ n + 1) (hs : inSps (Lib.decodeL (b :: z)).1 spaceSps = false) :
    ∃ r : Nat, Lib.decodeL (chunk (b :: z) ++ foldO n ((b :: z).drop (Lib.decodeL (b :: z)).2) false true) = (r, (chunk (b :: z)).length) ∧ inSps (r : Int) spaceSps = false ∧ inSps (r : Int) upSps = false ∧
      (r = (Lib.decodeL (b :: z)).1 ∨ (97 ≤ r ∧ 128 > r) ∨ 224 ≤ r) := by
  have hw := Lib.decodeL_width (b :: z)
  by_cases hu : inSps (Lib.decodeL (b :: z)).1 upSps = true
  · have e : chunk (b :: z) = Lib.encodeRune ((Lib.decodeL (b :: z)).1 + 32 : Int) := by unfold chunk; rw [if_pos hu]
    rw [e]
    obtain ⟨k1, k2, k3, _, _⟩ := up_decode hu (foldO n ((b :: z).drop (Lib.decodeL (b :: z)).2) false true)
    have := (up_char hu).1
    exact ⟨_, k1, k3, k2, by omega⟩
  · have e : chunk (b :: z) = (b :: z).take (Lib.decodeL (b :: z)).2 := by unfold chunk; rw [if_neg hu]
    have hle := Lib.decodeL_le (b :: z) (by simp)
    refine ⟨(Lib.decodeL (b :: z)).1, ?_, hs, by simpa using hu, Or.inl rfl⟩
    have hl : (chunk (b :: z)).length = (Lib.decodeL (b :: z)).2 := by rw [e, List.length_take]; omega
    rw [hl, e, List.take_cons (by omega), List.cons_append]
    have hz : (b :: z).drop (Lib.decodeL (b :: z)).2 = z.drop ((Lib.decodeL (b :: z)).2 - 1) := by
      conv => lhs; rw [show (Lib.decodeL (b :: z)).2 = (Lib.decodeL (b :: z)).2 - 1 + 1 by omega]
      rw [List.drop_succ_cons]
    have hc : conts (z.take ((Lib.decodeL (b :: z)).2 - 1) ++ foldO n ((b :: z).drop (Lib.decodeL (b :: z)).2) false true) = conts z := by
      rw [conts_append _ _ (width_conts b z).1, fold_conts n _ (by rw [List.length_drop]; simp only [List.length_cons] at *; omega), hz, ← conts_append _ _ (width_conts b z).1, List.take_append_drop]
    rw [decode_conts b _ z hc]

theorem blank_decode (y : List UInt8) : Lib.decodeL (32 :: y) = (32, 1) := Lib.decodeL_ascii 32 y (by decide)

/-- FOLDED AGAIN IT STAYS. -/
theorem foldO_twice : ∀ (n : Nat) (l : List UInt8) (sp st : Bool) (m : Nat), l.length ≤ n → (foldO n l sp st).length ≤ m → foldO m (foldO n l sp st) false st = foldO n l sp st
  | n, [], sp, st, m, _, _ => by rw [foldO_nil, foldO_nil]
  | 0, b :: z, sp, st, m, h, _ => by simp at h
  | n + 1, b :: z, sp, st, m, h, hm => by
    have hw := Lib.decodeL_width (b :: z)
    have hd : ((b :: z).drop (Lib.decodeL (b :: z)).2).length ≤ n := by rw [List.length_drop]; simp only [List.length_cons] at *; omega
    rw [foldO, if_neg (by simp)] at hm ⊢
    by_cases hs : inSps (Lib.decodeL (b :: z)).1 spaceSps = true
    · rw [if_pos hs] at hm ⊢
      exact foldO_twice n _ true st m hd hm
    · rw [if_neg hs] at hm ⊢
      have hs' : inSps (Lib.decodeL (b :: z)).1 spaceSps = false := by simpa using hs
      obtain ⟨r, k1, k2, k3, _⟩ := chunk_read n b z h hs'
      have hc := chunk_ne (b :: z) (by simp)
      have hcl := List.length_pos_iff.2 hc
      -- one chunk, whatever is asked of blanks
      have key : ∀ (f : Nat) (a : Bool), (chunk (b :: z) ++ foldO n ((b :: z).drop (Lib.decodeL (b :: z)).2) false true).length ≤ f →
          foldO f (chunk (b :: z) ++ foldO n ((b :: z).drop (Lib.decodeL (b :: z)).2) false true) a st = (if a && st then [32] else []) ++ (chunk (b :: z) ++ foldO n ((b :: z).drop (Lib.decodeL (b :: z)).2) false true) := by
        intro f a hf
        rw [List.length_append] at hf
        obtain ⟨f, rfl⟩ : ∃ g, f = g + 1 := ⟨f - 1, by omega⟩
        rw [foldO, if_neg (by simp [hc]), k1]
        simp only
        rw [k2, if_neg (by simp)]
        have e1 : chunk (chunk (b :: z) ++ foldO n ((b :: z).drop (Lib.decodeL (b :: z)).2) false true) = chunk (b :: z) := by
          rw [chunk_eq (chunk (b :: z) ++ foldO n ((b :: z).drop (Lib.decodeL (b :: z)).2) false true), k1]
          simp only
          rw [k3, if_neg (by simp), List.take_left' rfl]
        rw [e1, List.drop_left' rfl, foldO_twice n _ false true f hd (by omega)]
      by_cases hb : (sp && st) = true
      · rw [if_pos hb] at hm ⊢
        have hst : st = true := by cases st <;> simp_all
        subst hst
        simp only [List.cons_append, List.nil_append, List.length_cons] at hm ⊢
        obtain ⟨m, rfl⟩ : ∃ g, m = g + 1 := ⟨m - 1, by omega⟩
        rw [foldO, if_neg (by simp), blank_decode]
        simp only [List.drop_succ_cons, List.drop_zero]
        rw [if_pos (by decide), key m true (by omega)]
        rfl
      · rw [if_neg hb] at hm ⊢
        simp only [List.nil_append] at hm ⊢
        rw [key m false hm]
        rfl
theorem fold_twice (l : List UInt8) : fold (fold l) = fold l := by
  rw [fold_out (fold l), fold_out l]
  exact foldO_twice l.length l false false _ (Nat.le_refl _) (Nat.le_refl _)

/-! ### no sign that a name may not have comes in -/
theorem hasBad_fuel : ∀ (n m : Nat) (l : List UInt8), l.length ≤ n → l.length ≤ m → hasBad n l = hasBad m l
  | n, m, [], _, _ => by rw [hasBad_nil, hasBad_nil]
  | 0, m, b :: z, h, _ => by simp at h
  | n + 1, 0, b :: z, _, h => by simp at h
  | n + 1, m + 1, b :: z, h, h' => by
    have hw := Lib.decodeL_width (b :: z)
    have hd : ((b :: z).drop (Lib.decodeL (b :: z)).2).length ≤ n ∧ ((b :: z).drop (Lib.decodeL (b :: z)).2).length ≤ m := by
      rw [List.length_drop]; simp only [List.length_cons] at *; omega
    rw [hasBad, hasBad, hasBad_fuel n m _ hd.1 hd.2]
def badR (r : Nat) : Bool := badSigns.any (fun b => b.toNat == r)
theorem badR_big {r : Nat} (h : 97 ≤ r) : badR r = false := by
  unfold badR badSigns
  simp; omega
theorem fold_good : ∀ (n : Nat) (l : List UInt8) (sp st : Bool) (m : Nat), l.length ≤ n → (foldO n l sp st).length ≤ m → hasBad n l = false → hasBad m (foldO n l sp st) = false
  | n, [], sp, st, m, _, _, _ => by rw [foldO_nil, hasBad_nil]
  | 0, b :: z, sp, st, m, h, _, _ => by simp at h
  | n + 1, b :: z, sp, st, m, h, hm, hbad => by
    have hw := Lib.decodeL_width (b :: z)
    have hd : ((b :: z).drop (Lib.decodeL (b :: z)).2).length ≤ n := by rw [List.length_drop]; simp only [List.length_cons] at *; omega
    rw [hasBad, if_neg (by simp), Bool.or_eq_false_iff] at hbad
    obtain ⟨hb1, hb2⟩ := hbad
    rw [foldO, if_neg (by simp)] at hm ⊢
    by_cases hs : inSps (Lib.decodeL (b :: z)).1 spaceSps = true
    · rw [if_pos hs] at hm ⊢
      exact fold_good n _ true st m hd hm hb2
    · rw [if_neg hs] at hm ⊢
      have hs' : inSps (Lib.decodeL (b :: z)).1 spaceSps = false := by simpa using hs
      obtain ⟨r, k1, k2, k3, k4⟩ := chunk_read n b z h hs'
      have hc := chunk_ne (b :: z) (by simp)
      have hcl := List.length_pos_iff.2 hc
      have hr : badR r = false := by
        rcases k4 with h | h | h
        · rw [h]; exact hb1
        · exact badR_big h.1
        · exact badR_big (by omega)
      have key : ∀ f, (chunk (b :: z) ++ foldO n ((b :: z).drop (Lib.decodeL (b :: z)).2) false true).length ≤ f →
          hasBad f (chunk (b :: z) ++ foldO n ((b :: z).drop (Lib.decodeL (b :: z)).2) false true) = false := by
        intro f hf
        rw [List.length_append] at hf
        obtain ⟨f, rfl⟩ : ∃ g, f = g + 1 := ⟨f - 1, by omega⟩
        rw [hasBad, if_neg (by simp [hc]), k1]
        simp only
        rw [List.drop_left' rfl, fold_good n _ false true f hd (by omega) hb2, Bool.or_false]
        exact hr
      by_cases hb : (sp && st) = true
      · rw [if_pos hb] at hm ⊢
        simp only [List.cons_append, List.nil_append, List.length_cons] at hm ⊢
        obtain ⟨m, rfl⟩ : ∃ g, m = g + 1 := ⟨m - 1, by omega⟩
        rw [hasBad, if_neg (by simp), blank_decode]
        simp only [List.drop_succ_cons, List.drop_zero]
        rw [key m (by omega)]
        decide
      · rw [if_neg hb] at hm ⊢
        simp only [List.nil_append] at hm ⊢
        exact key m hm

/-- A NAME ASKED FOR BY ITSELF IS ITSELF. -/
theorem name_twice (l : List UInt8) (h : (nameL l).2 = true) : nameL (nameL l).1 = ((nameL l).1, true) ∧ (nameL l).1 = fold l := by
  unfold nameL at h
  split at h
  · cases h
  · rename_i h1
    split at h
    · cases h
    · rename_i h2
      have e : nameL l = (fold l, true) := by unfold nameL; rw [if_neg h1, if_neg h2]
      rw [e]
      refine ⟨?_, rfl⟩
      simp only
      have hg : hasBad (fold l).length (fold l) = false := by
        have := fold_good l.length l false false (fold l).length (Nat.le_refl _) (by rw [← fold_out]; exact Nat.le_refl _) (by simpa using h1)
        rw [← fold_out] at this
        exact this
      unfold nameL
      rw [hg, fold_twice, if_neg (by simp), if_neg h2]

/-! ### blanks around a text -/
theorem decode_tail (b : UInt8) (z : List UInt8) : Lib.decodeL ((b :: z) ++ [9, 32]) = Lib.decodeL (b :: z) := by
  rw [List.cons_append]
  exact decode_conts b _ _ (conts_blank z 9 [32] (by decide))
theorem foldO_tail : ∀ (n : Nat) (l : List UInt8) (sp st : Bool), l.length ≤ n → foldO (n + 2) (l ++ [9, 32]) sp st = foldO n l sp st
  | n, [], sp, st, _ => by
    rw [foldO_nil, List.nil_append]
    have d9 : Lib.decodeL [9, 32] = (9, 1) := Lib.decodeL_ascii 9 [32] (by decide)
    rw [foldO, if_neg (by simp), d9]
    simp only [List.drop_succ_cons, List.drop_zero]
    rw [if_pos (by decide), foldO, if_neg (by simp), blank_decode]
    simp only [List.drop_succ_cons, List.drop_zero]
    rw [if_pos (by decide), foldO_nil]
  | 0, b :: z, sp, st, h => by simp at h
  | n + 1, b :: z, sp, st, h => by
    have hw := Lib.decodeL_width (b :: z)
    have hle := Lib.decodeL_le (b :: z) (by simp)
    have hd : ((b :: z).drop (Lib.decodeL (b :: z)).2).length ≤ n := by rw [List.length_drop]; simp only [List.length_cons] at *; omega
    have e1 : ((b :: z) ++ [9, 32]).drop (Lib.decodeL (b :: z)).2 = (b :: z).drop (Lib.decodeL (b :: z)).2 ++ [9, 32] := List.drop_append_of_le_length hle
    have e2 : chunk ((b :: z) ++ [9, 32]) = chunk (b :: z) := by
      unfold chunk
      rw [decode_tail, List.take_append_of_le_length hle]
    rw [show n + 1 + 2 = (n + 2) + 1 by omega, foldO, if_neg (by simp), decode_tail, e1, e2, foldO_tail n _ true st hd, foldO_tail n _ false true hd]
    conv => rhs; rw [foldO, if_neg (by simp)]
theorem fold_around (l : List UInt8) : fold (32 :: (l ++ [9, 32])) = fold l := by
  rw [fold_out, fold_out, show (32 :: (l ++ [9, 32])).length = (l.length + 2) + 1 by simp, foldO, if_neg (by simp), blank_decode]
  simp only [List.drop_succ_cons, List.drop_zero]
  rw [if_pos (by decide), foldO_start, foldO_tail _ _ _ _ (Nat.le_refl _)]
theorem hasBad_tail : ∀ (n : Nat) (l : List UInt8), l.length ≤ n → hasBad (n + 2) (l ++ [9, 32]) = hasBad n l
  | n, [], _ => by
    rw [hasBad_nil, List.nil_append]
    have d9 : Lib.decodeL [9, 32] = (9, 1) := Lib.decodeL_ascii 9 [32] (by decide)
    rw [hasBad, if_neg (by simp), d9]
    simp only [List.drop_succ_cons, List.drop_zero]
    rw [hasBad, if_neg (by simp), blank_decode]
    simp only [List.drop_succ_cons, List.drop_zero]
    rw [hasBad_nil]
    decide
  | 0, b :: z, h => by simp at h
  | n + 1, b :: z, h => by
    have hw := Lib.decodeL_width (b :: z)
    have hle := Lib.decodeL_le (b :: z) (by simp)
    have hd : ((b :: z).drop (Lib.decodeL (b :: z)).2).length ≤ n := by rw [List.length_drop]; simp only [List.length_cons] at *; omega
    have e1 : ((b :: z) ++ [9, 32]).drop (Lib.decodeL (b :: z)).2 = (b :: z).drop (Lib.decodeL (b :: z)).2 ++ [9, 32] := List.drop_append_of_le_length hle
    rw [show n + 1 + 2 = (n + 2) + 1 by omega, hasBad, if_neg (by simp), decode_tail, e1, hasBad_tail n _ hd]
    conv => rhs; rw [hasBad, if_neg (by simp)]
theorem name_around (l : List UInt8) : nameL (32 :: (l ++ [9, 32])) = nameL l := by
  unfold nameL
  rw [fold_around]
  have : hasBad (32 :: (l ++ [9, 32])).length (32 :: (l ++ [9, 32])) = hasBad l.length l := by
    rw [show (32 :: (l ++ [9, 32])).length = (l.length + 2) + 1 by simp, hasBad, if_neg (by simp), blank_decode]
    simp only [List.drop_succ_cons, List.drop_zero]
    rw [hasBad_tail _ _ (Nat.le_refl _), show (badSigns.any fun b => b.toNat == 32) = false by decide, Bool.false_or]
  rw [this]

end Go.Proofs.YtnlmfoccdmkncaaGreatDoor

/-
  bowdlerlaw11.alive: the first call whose answer the document fixes; a definition asked for as a whole.
-/
namespace Go.Proofs.YtnlmfoccdmkncaaGreatDoor
open Go.RowKit
set_option maxRecDepth 100000
set_option linter.unusedVariables false
set_option linter.unusedSimpArgs false

theorem defAt_new (w : World) (u0 u1 u2 u3 u4 : Value) : DefAt (w.alloc (.cells #[u0, u1, u2, u3, u4] 26)) w.heap.size u0 u1 u2 u3 u4 := by
  unfold DefAt; simp

theorem alive_line1 : lineL [91, 65, 32, 98, 93, 58, 32, 47, 120, 32, 34, 116, 34] = (⟨[97, 32, 98], [47, 120], [116], [], false⟩, true) := by decide +kernel
theorem alive_line2 : lineL [91, 94, 110, 93, 58, 32, 116, 101, 120, 116] = (⟨[110], [], [], [116, 101, 120, 116], true⟩, true) := by decide +kernel

set_option maxHeartbeats 4000000 in
theorem alive11 (w : World) (hE : Env w) : Calls Tryz.prog 5 #[] w fun e w' => e = .returned (.bool true) ∧ Below w.heap.size w w' := by
  have c1 := fun W hW => line_any ⟨#[91, 65, 32, 98, 93, 58, 32, 47, 120, 32, 34, 116, 34]⟩ W hW (by decide)
  rw [show (ByteArray.mk #[91, 65, 32, 98, 93, 58, 32, 47, 120, 32, 34, 116, 34]).data.toList = [91, 65, 32, 98, 93, 58, 32, 47, 120, 32, 34, 116, 34] from rfl, alive_line1] at c1
  have c2 := fun W hW => line_any ⟨#[91, 94, 110, 93, 58, 32, 116, 101, 120, 116]⟩ W hW (by decide)
  rw [show (ByteArray.mk #[91, 94, 110, 93, 58, 32, 116, 101, 120, 116]).data.toList = [91, 94, 110, 93, 58, 32, 116, 101, 120, 116] from rfl, alive_line2] at c2
  simp only [DefL.val, defV] at c1 c2
  have C1 := Lib.hid c1
  have C2 := Lib.hid c2
  have HE := Lib.hid hE
  clear c1 c2 hE
  go_enter Tryz.func5, Tryz.ntmps5
  go_wp2_with fail
  refine (C1.out _ HE.out).mono ?_
  rintro e w1 ⟨rfl, b1⟩
  go_wp2_with fail
  have hd1 := defAt_new w1 (.string ⟨#[97, 32, 98]⟩) (.string ⟨#[47, 120]⟩) (.string ⟨#[116]⟩) (.string ⟨#[]⟩) (.bool false)
  have hb1 := b1.alloc b1.size (.cells #[.string ⟨#[97, 32, 98]⟩, .string ⟨#[47, 120]⟩, .string ⟨#[116]⟩, .string ⟨#[]⟩, .bool false] 26)
  have hs1 : w1.heap.size < (w1.alloc (.cells #[.string ⟨#[97, 32, 98]⟩, .string ⟨#[47, 120]⟩, .string ⟨#[116]⟩, .string ⟨#[]⟩, .bool false] 26)).heap.size := by simp
  refine (C2.out _ (HE.out.below hb1)).mono ?_
  rintro e w2 ⟨rfl, b2⟩
  have hd2 := hd1.below b2 hs1
  have hb2 := below_step hb1 b2
  have hs2 : w1.heap.size < w2.heap.size := by have := b2.size; omega
  clear hd1 hb1 hs1 b2
  obtain ⟨d0, d1, d2, d3, d4, g0, g1, g2, g3, g4⟩ := hd2
  go_wp2_with fail
  go_ret
  exact ⟨rfl, hb2.alloc hb2.size _⟩

end Go.Proofs.YtnlmfoccdmkncaaGreatDoor

/-
  A book's lists of the kinds of which none is kept: nothing to compare, to mark, to grow.
-/
namespace Go.Proofs.YtnlmfoccdmkncaaGreatDoor
open Go.RowKit
set_option maxRecDepth 100000
set_option linter.unusedVariables false
set_option linter.unusedSimpArgs false


theorem stillTexts_nil (b : Nat) (w : World) (h : w.cell? ⟨b, 0, none⟩ = some (.slice none 0 0)) :
    Calls Tryz.prog 34 #[.pointer (some ⟨b, 0, none⟩)] w fun e w' => e = .returned (.bool true) ∧ w = w' := by
  go_enter Tryz.func34, Tryz.ntmps34
  go_wp2_with fail
  go_loop [3] (fun u => u = .int .i64 0) (fun _ => 0)
  case atStart => exact rfl
  case round =>
    subst hrel
    go_wp2_with fail
    go_ret
    exact ⟨rfl, rfl⟩
theorem putTexts_nil (b : Nat) (w : World) (h : w.cell? ⟨b, 0, none⟩ = some (.slice none 0 0)) :
    Calls Tryz.prog 43 #[.pointer (some ⟨b, 0, none⟩)] w fun e w' => e = .returned (.tuple #[]) ∧ w = w' := by
  go_enter Tryz.func43, Tryz.ntmps43
  go_wp2_with fail
  go_loop [2] (fun u => u = .int .i64 0) (fun _ => 0)
  case atStart => exact rfl
  case round =>
    subst hrel
    go_wp2_with fail
    go_end0
    exact ⟨rfl, rfl⟩
theorem growTexts_nil (b : Nat) (w : World) (h : w.cell? ⟨b, 0, none⟩ = some (.slice none 0 0)) :
    Calls Tryz.prog 50 #[.pointer (some ⟨b, 0, none⟩)] w fun e w' => e = .returned (.slice none 0 0) ∧ w = w' := by
  go_enter Tryz.func50, Tryz.ntmps50
  go_wp2_with fail
  go_loop [3, 4] (fun v u => v = .slice none 0 0 ∧ u = .int .i64 0) (fun _ _ => 0)
  case atStart => exact ⟨rfl, rfl⟩
  case round =>
    obtain ⟨rfl, rfl⟩ := hrel
    go_wp2_with fail
    go_ret
    exact ⟨rfl, rfl⟩
theorem markedTexts_nil (w : World) :
    Calls Tryz.prog 58 #[.slice none 0 0] w fun e w' => e = .returned (.bool true) ∧ w = w' := by
  go_enter Tryz.func58, Tryz.ntmps58
  go_wp2_with fail
  go_loop [3] (fun u => u = .int .i64 0) (fun _ => 0)
  case atStart => exact rfl
  case round =>
    subst hrel
    go_wp2_with fail
    go_ret
    exact ⟨rfl, rfl⟩
theorem stillInts_nil (b : Nat) (w : World) (h : w.cell? ⟨b, 2, none⟩ = some (.slice none 0 0)) :
    Calls Tryz.prog 35 #[.pointer (some ⟨b, 0, none⟩)] w fun e w' => e = .returned (.bool true) ∧ w = w' := by
  go_enter Tryz.func35, Tryz.ntmps35
  go_wp2_with fail
  go_loop [3] (fun u => u = .int .i64 0) (fun _ => 0)
  case atStart => exact rfl
  case round =>
    subst hrel
    go_wp2_with fail
    go_ret
    exact ⟨rfl, rfl⟩
theorem putInts_nil (b : Nat) (w : World) (h : w.cell? ⟨b, 2, none⟩ = some (.slice none 0 0)) :
    Calls Tryz.prog 44 #[.pointer (some ⟨b, 0, none⟩)] w fun e w' => e = .returned (.tuple #[]) ∧ w = w' := by
  go_enter Tryz.func44, Tryz.ntmps44
  go_wp2_with fail
  go_loop [2] (fun u => u = .int .i64 0) (fun _ => 0)
  case atStart => exact rfl
  case round =>
    subst hrel
    go_wp2_with fail
    go_end0
    exact ⟨rfl, rfl⟩
theorem growInts_nil (b : Nat) (w : World) (h : w.cell? ⟨b, 2, none⟩ = some (.slice none 0 0)) :
    Calls Tryz.prog 51 #[.pointer (some ⟨b, 0, none⟩)] w fun e w' => e = .returned (.slice none 0 0) ∧ w = w' := by
  go_enter Tryz.func51, Tryz.ntmps51
  go_wp2_with fail
  go_loop [3, 4] (fun v u => v = .slice none 0 0 ∧ u = .int .i64 0) (fun _ _ => 0)
  case atStart => exact ⟨rfl, rfl⟩
  case round =>
    obtain ⟨rfl, rfl⟩ := hrel
    go_wp2_with fail
    go_ret
    exact ⟨rfl, rfl⟩
theorem markedInts_nil (w : World) :
    Calls Tryz.prog 59 #[.slice none 0 0] w fun e w' => e = .returned (.bool true) ∧ w = w' := by
  go_enter Tryz.func59, Tryz.ntmps59
  go_wp2_with fail
  go_loop [3] (fun u => u = .int .i64 0) (fun _ => 0)
  case atStart => exact rfl
  case round =>
    subst hrel
    go_wp2_with fail
    go_ret
    exact ⟨rfl, rfl⟩
theorem stillBlocks_nil (b : Nat) (w : World) (h : w.cell? ⟨b, 4, none⟩ = some (.slice none 0 0)) :
    Calls Tryz.prog 36 #[.pointer (some ⟨b, 0, none⟩)] w fun e w' => e = .returned (.bool true) ∧ w = w' := by
  go_enter Tryz.func36, Tryz.ntmps36
  go_wp2_with fail
  go_loop [3] (fun u => u = .int .i64 0) (fun _ => 0)
  case atStart => exact rfl
  case round =>
    subst hrel
    go_wp2_with fail
    go_ret
    exact ⟨rfl, rfl⟩
theorem putBlocks_nil (b : Nat) (w : World) (h : w.cell? ⟨b, 4, none⟩ = some (.slice none 0 0)) :
    Calls Tryz.prog 45 #[.pointer (some ⟨b, 0, none⟩)] w fun e w' => e = .returned (.tuple #[]) ∧ w = w' := by
  go_enter Tryz.func45, Tryz.ntmps45
  go_wp2_with fail
  go_loop [2] (fun u => u = .int .i64 0) (fun _ => 0)
  case atStart => exact rfl
  case round =>
    subst hrel
    go_wp2_with fail
    go_end0
    exact ⟨rfl, rfl⟩
theorem growBlocks_nil (b : Nat) (w : World) (h : w.cell? ⟨b, 4, none⟩ = some (.slice none 0 0)) :
    Calls Tryz.prog 52 #[.pointer (some ⟨b, 0, none⟩)] w fun e w' => e = .returned (.slice none 0 0) ∧ w = w' := by
  go_enter Tryz.func52, Tryz.ntmps52
  go_wp2_with fail
  go_loop [3, 4] (fun v u => v = .slice none 0 0 ∧ u = .int .i64 0) (fun _ _ => 0)
  case atStart => exact ⟨rfl, rfl⟩
  case round =>
    obtain ⟨rfl, rfl⟩ := hrel
    go_wp2_with fail
    go_ret
    exact ⟨rfl, rfl⟩
theorem markedBlocks_nil (w : World) :
    Calls Tryz.prog 60 #[.slice none 0 0] w fun e w' => e = .returned (.bool true) ∧ w = w' := by
  go_enter Tryz.func60, Tryz.ntmps60
  go_wp2_with fail
  go_loop [3] (fun u => u = .int .i64 0) (fun _ => 0)
  case atStart => exact rfl
  case round =>
    subst hrel
    go_wp2_with fail
    go_ret
    exact ⟨rfl, rfl⟩
theorem stillInls_nil (b : Nat) (w : World) (h : w.cell? ⟨b, 6, none⟩ = some (.slice none 0 0)) :
    Calls Tryz.prog 37 #[.pointer (some ⟨b, 0, none⟩)] w fun e w' => e = .returned (.bool true) ∧ w = w' := by
  go_enter Tryz.func37, Tryz.ntmps37
  go_wp2_with fail
  go_loop [3] (fun u => u = .int .i64 0) (fun _ => 0)
  case atStart => exact rfl
  case round =>
    subst hrel
    go_wp2_with fail
    go_ret
    exact ⟨rfl, rfl⟩
theorem putInls_nil (b : Nat) (w : World) (h : w.cell? ⟨b, 6, none⟩ = some (.slice none 0 0)) :
    Calls Tryz.prog 46 #[.pointer (some ⟨b, 0, none⟩)] w fun e w' => e = .returned (.tuple #[]) ∧ w = w' := by
  go_enter Tryz.func46, Tryz.ntmps46
  go_wp2_with fail
  go_loop [2] (fun u => u = .int .i64 0) (fun _ => 0)
  case atStart => exact rfl
  case round =>
    subst hrel
    go_wp2_with fail
    go_end0
    exact ⟨rfl, rfl⟩
theorem growInls_nil (b : Nat) (w : World) (h : w.cell? ⟨b, 6, none⟩ = some (.slice none 0 0)) :
    Calls Tryz.prog 53 #[.pointer (some ⟨b, 0, none⟩)] w fun e w' => e = .returned (.slice none 0 0) ∧ w = w' := by
  go_enter Tryz.func53, Tryz.ntmps53
  go_wp2_with fail
  go_loop [3, 4] (fun v u => v = .slice none 0 0 ∧ u = .int .i64 0) (fun _ _ => 0)
  case atStart => exact ⟨rfl, rfl⟩
  case round =>
    obtain ⟨rfl, rfl⟩ := hrel
    go_wp2_with fail
    go_ret
    exact ⟨rfl, rfl⟩
theorem markedInls_nil (w : World) :
    Calls Tryz.prog 61 #[.slice none 0 0] w fun e w' => e = .returned (.bool true) ∧ w = w' := by
  go_enter Tryz.func61, Tryz.ntmps61
  go_wp2_with fail
  go_loop [3] (fun u => u = .int .i64 0) (fun _ => 0)
  case atStart => exact rfl
  case round =>
    subst hrel
    go_wp2_with fail
    go_ret
    exact ⟨rfl, rfl⟩
theorem stillParts_nil (b : Nat) (w : World) (h : w.cell? ⟨b, 8, none⟩ = some (.slice none 0 0)) :
    Calls Tryz.prog 38 #[.pointer (some ⟨b, 0, none⟩)] w fun e w' => e = .returned (.bool true) ∧ w = w' := by
  go_enter Tryz.func38, Tryz.ntmps38
  go_wp2_with fail
  go_loop [3] (fun u => u = .int .i64 0) (fun _ => 0)
  case atStart => exact rfl
  case round =>
    subst hrel
    go_wp2_with fail
    go_ret
    exact ⟨rfl, rfl⟩
theorem putParts_nil (b : Nat) (w : World) (h : w.cell? ⟨b, 8, none⟩ = some (.slice none 0 0)) :
    Calls Tryz.prog 42 #[.pointer (some ⟨b, 0, none⟩)] w fun e w' => e = .returned (.tuple #[]) ∧ w = w' := by
  go_enter Tryz.func42, Tryz.ntmps42
  go_wp2_with fail
  go_loop [2] (fun u => u = .int .i64 0) (fun _ => 0)
  case atStart => exact rfl
  case round =>
    subst hrel
    go_wp2_with fail
    go_end0
    exact ⟨rfl, rfl⟩
theorem growParts_nil (b : Nat) (w : World) (h : w.cell? ⟨b, 8, none⟩ = some (.slice none 0 0)) :
    Calls Tryz.prog 54 #[.pointer (some ⟨b, 0, none⟩)] w fun e w' => e = .returned (.slice none 0 0) ∧ w = w' := by
  go_enter Tryz.func54, Tryz.ntmps54
  go_wp2_with fail
  go_loop [3, 4] (fun v u => v = .slice none 0 0 ∧ u = .int .i64 0) (fun _ _ => 0)
  case atStart => exact ⟨rfl, rfl⟩
  case round =>
    obtain ⟨rfl, rfl⟩ := hrel
    go_wp2_with fail
    go_ret
    exact ⟨rfl, rfl⟩
theorem markedParts_nil (w : World) :
    Calls Tryz.prog 62 #[.slice none 0 0] w fun e w' => e = .returned (.bool true) ∧ w = w' := by
  go_enter Tryz.func62, Tryz.ntmps62
  go_wp2_with fail
  go_loop [3] (fun u => u = .int .i64 0) (fun _ => 0)
  case atStart => exact rfl
  case round =>
    subst hrel
    go_wp2_with fail
    go_ret
    exact ⟨rfl, rfl⟩
theorem stillSecs_nil (b : Nat) (w : World) (h : w.cell? ⟨b, 12, none⟩ = some (.slice none 0 0)) :
    Calls Tryz.prog 40 #[.pointer (some ⟨b, 0, none⟩)] w fun e w' => e = .returned (.bool true) ∧ w = w' := by
  go_enter Tryz.func40, Tryz.ntmps40
  go_wp2_with fail
  go_loop [3] (fun u => u = .int .i64 0) (fun _ => 0)
  case atStart => exact rfl
  case round =>
    subst hrel
    go_wp2_with fail
    go_ret
    exact ⟨rfl, rfl⟩
theorem putSecs_nil (b : Nat) (w : World) (h : w.cell? ⟨b, 12, none⟩ = some (.slice none 0 0)) :
    Calls Tryz.prog 48 #[.pointer (some ⟨b, 0, none⟩)] w fun e w' => e = .returned (.tuple #[]) ∧ w = w' := by
  go_enter Tryz.func48, Tryz.ntmps48
  go_wp2_with fail
  go_loop [2] (fun u => u = .int .i64 0) (fun _ => 0)
  case atStart => exact rfl
  case round =>
    subst hrel
    go_wp2_with fail
    go_end0
    exact ⟨rfl, rfl⟩
theorem growSecs_nil (b : Nat) (w : World) (h : w.cell? ⟨b, 12, none⟩ = some (.slice none 0 0)) :
    Calls Tryz.prog 56 #[.pointer (some ⟨b, 0, none⟩)] w fun e w' => e = .returned (.slice none 0 0) ∧ w = w' := by
  go_enter Tryz.func56, Tryz.ntmps56
  go_wp2_with fail
  go_loop [3, 4] (fun v u => v = .slice none 0 0 ∧ u = .int .i64 0) (fun _ _ => 0)
  case atStart => exact ⟨rfl, rfl⟩
  case round =>
    obtain ⟨rfl, rfl⟩ := hrel
    go_wp2_with fail
    go_ret
    exact ⟨rfl, rfl⟩
theorem markedSecs_nil (w : World) :
    Calls Tryz.prog 64 #[.slice none 0 0] w fun e w' => e = .returned (.bool true) ∧ w = w' := by
  go_enter Tryz.func64, Tryz.ntmps64
  go_wp2_with fail
  go_loop [3] (fun u => u = .int .i64 0) (fun _ => 0)
  case atStart => exact rfl
  case round =>
    subst hrel
    go_wp2_with fail
    go_ret
    exact ⟨rfl, rfl⟩
theorem stillDiags_nil (b : Nat) (w : World) (h : w.cell? ⟨b, 14, none⟩ = some (.slice none 0 0)) :
    Calls Tryz.prog 41 #[.pointer (some ⟨b, 0, none⟩)] w fun e w' => e = .returned (.bool true) ∧ w = w' := by
  go_enter Tryz.func41, Tryz.ntmps41
  go_wp2_with fail
  go_loop [3] (fun u => u = .int .i64 0) (fun _ => 0)
  case atStart => exact rfl
  case round =>
    subst hrel
    go_wp2_with fail
    go_ret
    exact ⟨rfl, rfl⟩
theorem putDiags_nil (b : Nat) (w : World) (h : w.cell? ⟨b, 14, none⟩ = some (.slice none 0 0)) :
    Calls Tryz.prog 49 #[.pointer (some ⟨b, 0, none⟩)] w fun e w' => e = .returned (.tuple #[]) ∧ w = w' := by
  go_enter Tryz.func49, Tryz.ntmps49
  go_wp2_with fail
  go_loop [2] (fun u => u = .int .i64 0) (fun _ => 0)
  case atStart => exact rfl
  case round =>
    subst hrel
    go_wp2_with fail
    go_end0
    exact ⟨rfl, rfl⟩
theorem growDiags_nil (b : Nat) (w : World) (h : w.cell? ⟨b, 14, none⟩ = some (.slice none 0 0)) :
    Calls Tryz.prog 57 #[.pointer (some ⟨b, 0, none⟩)] w fun e w' => e = .returned (.slice none 0 0) ∧ w = w' := by
  go_enter Tryz.func57, Tryz.ntmps57
  go_wp2_with fail
  go_loop [3, 4] (fun v u => v = .slice none 0 0 ∧ u = .int .i64 0) (fun _ _ => 0)
  case atStart => exact ⟨rfl, rfl⟩
  case round =>
    obtain ⟨rfl, rfl⟩ := hrel
    go_wp2_with fail
    go_ret
    exact ⟨rfl, rfl⟩
theorem markedDiags_nil (w : World) :
    Calls Tryz.prog 65 #[.slice none 0 0] w fun e w' => e = .returned (.bool true) ∧ w = w' := by
  go_enter Tryz.func65, Tryz.ntmps65
  go_wp2_with fail
  go_loop [3] (fun u => u = .int .i64 0) (fun _ => 0)
  case atStart => exact rfl
  case round =>
    subst hrel
    go_wp2_with fail
    go_ret
    exact ⟨rfl, rfl⟩

end Go.Proofs.YtnlmfoccdmkncaaGreatDoor

/-
  What a book marks its lists with. No program in sight.
-/
namespace Go.Proofs.YtnlmfoccdmkncaaGreatDoor
open Go.RowKit
set_option linter.unusedVariables false
set_option linter.unusedSimpArgs false

theorem below_drawn {B : Nat} {a w : World} (h : Below B a w) (k : Nat) : Below B a (w.drewN k) := ⟨h.os, h.tape, h.output, h.size, h.block⟩

def markName (i k : Nat) : List UInt8 := [109, UInt8.ofNat (65 + i % 26), UInt8.ofNat (65 + i / 26 % 26), UInt8.ofNat (48 + k % 10), UInt8.ofNat (48 + k / 10 % 10), UInt8.ofNat (48 + k / 100 % 10)]
def markDef (i k : Nat) : DefL := ⟨markName i k, [], [], [], false⟩
def marks (i from' n : Nat) : List DefL := (List.range n).map fun j => markDef i (from' + j)

theorem marks_zero (i f : Nat) : marks i f 0 = [] := rfl
theorem marks_len (i f n : Nat) : (marks i f n).length = n := by simp [marks]
theorem marks_succ (i f n : Nat) : marks i f (n + 1) = marks i f n ++ [markDef i (f + n)] := by simp [marks, List.range_succ]
theorem marks_add (i f a : Nat) : ∀ b, marks i f (a + b) = marks i f a ++ marks i (f + a) b
  | 0 => by simp [marks_zero]
  | b + 1 => by rw [← Nat.add_assoc, marks_succ, marks_add i f a b, marks_succ, List.append_assoc, Nat.add_assoc]
theorem marks_add0 (i a b : Nat) : marks i 0 a ++ marks i a b = marks i 0 (a + b) := by rw [marks_add, Nat.zero_add]
theorem marks_at (i f n j : Nat) (h : j < n) : (marks i f n)[j]? = some (markDef i (f + j)) := by simp [marks, h]

theorem defCells_len (l : List DefL) : (defCells l).length = l.length * 5 := flat_len DefL.cells 5 (fun _ => rfl) l
theorem defCells_append (a b : List DefL) : defCells (a ++ b) = defCells a ++ defCells b := by simp [defCells]
theorem defCells_one (l : List DefL) : ∀ u ∈ defCells l, u.oneCell' = true := by
  intro u hu
  obtain ⟨d, _, hd⟩ := List.mem_flatMap.1 hu
  simp [DefL.cells] at hd
  rcases hd with rfl | rfl | rfl | rfl | rfl <;> rfl

/-- A slice of definitions, as it reads. -/
def ReadsDefs (w : World) (v : Value) (ds : List DefL) : Prop := ∃ ao c, v = .slice ao ds.length c ∧ RowR w 5 ao ds.length (defCells ds) ∧ (ao = none → c = 0) ∧ ds.length ≤ c
theorem reads_own {w : World} {B T : Nat} {v : Value} {ds : List DefL} {n : Nat} (hn : n = ds.length) (h : w.ownsRow B T 5 v n (defCells ds)) : ReadsDefs w v ds := by
  subst hn; exact own_slice h
theorem ReadsDefs.below {w w' : World} {v : Value} {ds : List DefL} (h : ReadsDefs w v ds) (hb : Below w.heap.size w w') : ReadsDefs w' v ds := by
  obtain ⟨ao, c, h1, h2, h3, h4⟩ := h
  exact ⟨ao, c, h1, h2.below hb, h3, h4⟩

theorem RowR.defCell {w : World} {b o : Nat} {n : Nat} {l : List DefL} (h : RowR w 5 (some ⟨b, o, none⟩) n (defCells l)) (i j : Nat) (x : DefL) (u : Value) (hi : l[i]? = some x) (hj : j < 5) (hu : x.cells[j]? = some u) : w.cell? ⟨b, o + (i * 5 + j), none⟩ = some u :=
  RowR.cell (f := DefL.cells) h (fun _ => rfl) i j x u hi hj hu

end Go.Proofs.YtnlmfoccdmkncaaGreatDoor

/-
  bowdlerbook.SameDefs: lists that read alike are alike; copyDefs: a copy of the call's own.
-/
namespace Go.Proofs.YtnlmfoccdmkncaaGreatDoor
open Go.RowKit
set_option maxRecDepth 100000
set_option linter.unusedVariables false
set_option linter.unusedSimpArgs false

set_option maxHeartbeats 2000000 in
theorem sameDefs_yes (ds : List DefL) (v1 v2 : Value) (w : World) (h1 : ReadsDefs w v1 ds) (h2 : ReadsDefs w v2 ds) (hl : ds.length ≤ 1000000000) :
    Calls Tryz.prog 13 #[v1, v2] w fun e w' => e = .returned (.bool true) ∧ ∃ n, w' = w.drewN n := by
  obtain ⟨ao1, c1, rfl, hr1, hn1, hc1⟩ := h1
  obtain ⟨ao2, c2, rfl, hr2, hn2, hc2⟩ := h2
  obtain ⟨N, hN⟩ : ∃ N, ds.length = N := ⟨_, rfl⟩
  rw [hN] at hl hr1 hr2 hc1 hc2 ⊢
  have HR1 := Lib.hid hr1
  have HR2 := Lib.hid hr2
  have HN := Lib.hid hN
  clear hr1 hr2 hn1 hn2 hN
  have hNN : ((N : Int) != (N : Int)) = false := by simp
  go_enter Tryz.func13, Tryz.ntmps13
  go_wp2_with fail
  clear hNN
  go_loopw [5] (fun u5 wr => ∃ k n : Nat, k ≤ N ∧ u5 = .int .i64 k ∧ wr = w.drewN n) (fun u5 _ => N - (intOf u5).toNat)
  case atStart => exact ⟨0, 0, Nat.zero_le _, rfl, rfl⟩
  case round =>
    obtain ⟨k, n, hk, rfl, rfl⟩ := hrel
    by_cases hlt : k < N
    · obtain ⟨d, hd⟩ : ∃ d, ds[k]? = some d := ⟨ds[k]'(by have := HN.out; omega), List.getElem?_eq_getElem _⟩
      obtain ⟨a1, rfl⟩ : ∃ a, ao1 = some a := by
        cases ao1 with
        | none => have := HR1.out.non rfl; omega
        | some a => exact ⟨a, rfl⟩
      obtain ⟨a2, rfl⟩ : ∃ a, ao2 = some a := by
        cases ao2 with
        | none => have := HR2.out.non rfl; omega
        | some a => exact ⟨a, rfl⟩
      obtain ⟨b1, o1, s1⟩ := a1
      obtain ⟨b2, o2, s2⟩ := a2
      obtain rfl : s1 = none := (HR1.out.at' _ rfl).1
      obtain rfl : s2 = none := (HR2.out.at' _ rfl).1
      have p0 : w.cell? ⟨b1, o1 + k * 5, none⟩ = some (.string ⟨d.name.toArray⟩) := HR1.out.defCell k 0 d _ hd (by decide) rfl
      have p1 : w.cell? ⟨b1, o1 + k * 5 + 1, none⟩ = some (.string ⟨d.url.toArray⟩) := HR1.out.defCell k 1 d _ hd (by decide) rfl
      have p2 : w.cell? ⟨b1, o1 + k * 5 + 2, none⟩ = some (.string ⟨d.title.toArray⟩) := HR1.out.defCell k 2 d _ hd (by decide) rfl
      have p3 : w.cell? ⟨b1, o1 + k * 5 + 3, none⟩ = some (.string ⟨d.text.toArray⟩) := HR1.out.defCell k 3 d _ hd (by decide) rfl
      have p4 : w.cell? ⟨b1, o1 + k * 5 + 4, none⟩ = some (.bool d.note) := HR1.out.defCell k 4 d _ hd (by decide) rfl
      have q0 : w.cell? ⟨b2, o2 + k * 5, none⟩ = some (.string ⟨d.name.toArray⟩) := HR2.out.defCell k 0 d _ hd (by decide) rfl
      have q1 : w.cell? ⟨b2, o2 + k * 5 + 1, none⟩ = some (.string ⟨d.url.toArray⟩) := HR2.out.defCell k 1 d _ hd (by decide) rfl
      have q2 : w.cell? ⟨b2, o2 + k * 5 + 2, none⟩ = some (.string ⟨d.title.toArray⟩) := HR2.out.defCell k 2 d _ hd (by decide) rfl
      have q3 : w.cell? ⟨b2, o2 + k * 5 + 3, none⟩ = some (.string ⟨d.text.toArray⟩) := HR2.out.defCell k 3 d _ hd (by decide) rfl
      have q4 : w.cell? ⟨b2, o2 + k * 5 + 4, none⟩ = some (.bool d.note) := HR2.out.defCell k 4 d _ hd (by decide) rfl
      obtain ⟨n0, x1, x2, x3, x4⟩ := d
      simp only at p0 p1 p2 p3 p4 q0 q1 q2 q3 q4
      obtain ⟨y0, hy0⟩ : ∃ y : ByteArray, ⟨n0.toArray⟩ = y := ⟨_, rfl⟩
      obtain ⟨y1, hy1⟩ : ∃ y : ByteArray, ⟨x1.toArray⟩ = y := ⟨_, rfl⟩
      obtain ⟨y2, hy2⟩ : ∃ y : ByteArray, ⟨x2.toArray⟩ = y := ⟨_, rfl⟩
      obtain ⟨y3, hy3⟩ : ∃ y : ByteArray, ⟨x3.toArray⟩ = y := ⟨_, rfl⟩
      rw [hy0] at p0 q0
      rw [hy1] at p1 q1
      rw [hy2] at p2 q2
      rw [hy3] at p3 q3
      clear hd hy0 hy1 hy2 hy3
      have e0 := beq_self_bytes y0
      have e1 := beq_self_bytes y1
      have e2 := beq_self_bytes y2
      have e3 := beq_self_bytes y3
      have e4 : (x4 == x4) = true := by simp
      have hkN : (k : Int) < (N : Int) := by omega
      go_wp2_with fail
      go_quiet (fail)
      go_wp2_with fail
      go_roundw
      case rel => exact ⟨k + 1, _, by omega, by go_num, rfl⟩
      case measure => simp [intOf]; omega
    · obtain rfl : k = N := by omega
      go_wp2_with fail
      go_ret
      exact ⟨rfl, n, rfl⟩

theorem copyDefs_any (ds : List DefL) (v : Value) (w : World) (h : ReadsDefs w v ds) (hl : ds.length ≤ 1000000) :
    Calls Tryz.prog 33 #[v] w fun e w' => ∃ v', e = .returned v' ∧ w'.ownsRow w.heap.size 26 5 v' ds.length (defCells ds) ∧ Below w.heap.size w w' := by
  obtain ⟨i0, hinf, hz0, hz1, hz2⟩ := info_parts infoDef
  obtain ⟨ao, c, rfl, hr, hn, hc⟩ := h
  go_enter Tryz.func33, Tryz.ntmps33
  go_wp2_with (first
    | (at_builtin; refine wpList_append_row _ rfl _ _ 40 rfl w.heap.size 26 i0 (.agg #[.string ⟨#[]⟩, .string ⟨#[]⟩, .string ⟨#[]⟩, .string ⟨#[]⟩, .bool false]) 5 72 Tryz.underlying40 hinf hz0 hz1 hz2 rfl (by decide) _ 0 [] rfl (World.ownsRow_nil _ _ _ _) ao ds.length c (defCells ds) rfl hr hn (defCells_one ds) ?c3 ?c4 ?c5 ?_))
  case c3 => unfold maxLen; omega
  case c4 => omega
  case c5 => exact Nat.le_refl _
  intro v' w4 hown4 hgrow
  have hB4 := (Below.refl w.heap.size w).grown hgrow (Nat.le_refl _) (fun j hj => by simp [Value.ownBlock] at hj)
  go_wp2_with fail
  go_ret
  exact ⟨v', rfl, by simpa using hown4, hB4⟩

end Go.Proofs.YtnlmfoccdmkncaaGreatDoor

/-
  append to a row of the call's own: what stood in it stays as it was, wherever the new row lies. No program in sight.
-/
namespace Go.Proofs.YtnlmfoccdmkncaaGreatDoor
open Go.RowKit
set_option linter.unusedVariables false
set_option linter.unusedSimpArgs false

/-- What an append leaves: old blocks but the row's are as they were, and so are the row's first cells. -/
structure Onto (w w' : World) (row : Option Nat) (k : Nat) : Prop where
  grown : w.grownBy w' row
  first : ∀ p j, row = some p → j < k → w'.cell? ⟨p, j, none⟩ = w.cell? ⟨p, j, none⟩

theorem Onto.refl (w : World) (row : Option Nat) (k : Nat) : Onto w w row k := ⟨World.grownBy.refl w row, fun _ _ _ _ => rfl⟩

/-- One more append: to the same block, of at least as many cells; or to a block that is newer than all. -/
theorem Onto.step {w w1 w2 : World} {row row' : Option Nat} {k k' : Nat} (h : Onto w w1 row k) (h' : Onto w1 w2 row' k') (hr : (row' = row ∧ k ≤ k') ∨ (∀ q, row' = some q → w.heap.size ≤ q)) (hl : ∀ p, row = some p → p < w.heap.size) : Onto w w2 row k := by
  refine ⟨⟨h'.grown.os.trans h.grown.os, h'.grown.tape.trans h.grown.tape, h'.grown.output.trans h.grown.output, Nat.le_trans h.grown.size h'.grown.size, fun q hq hne => ?_⟩, fun p j hp hj => ?_⟩
  · refine (h'.grown.block q (Nat.lt_of_lt_of_le hq h.grown.size) ?_).trans (h.grown.block q hq hne)
    rcases hr with ⟨rfl, _⟩ | hr
    · exact hne
    · intro e; have := hr q e.symm; omega
  · refine Eq.trans ?_ (h.first p j hp hj)
    rcases hr with ⟨rfl, hk⟩ | hr
    · exact h'.first p j hp (by omega)
    · have hpl := hl p hp
      exact World.cell?_of_block (h'.grown.block p (Nat.lt_of_lt_of_le hpl h.grown.size) (fun e => by have := hr p e.symm; omega))

/-- Nothing of what was: new blocks alone. -/
theorem Onto.ofBelow {w w' : World} {row : Option Nat} {k : Nat} (h : Below w.heap.size w w') (hl : ∀ p, row = some p → p < w.heap.size) : Onto w w' row k :=
  ⟨⟨h.os, h.tape, h.output, h.size, fun q hq _ => h.block q hq⟩, fun p j hp _ => h.cell (p := ⟨p, j, none⟩) (hl p hp)⟩

theorem Onto.below {w w' : World} {row : Option Nat} {k B : Nat} {a : World} (h : Onto w w' row k) (hb : Below B a w) (hB : B ≤ w.heap.size) (hr : ∀ p, row = some p → B ≤ p) : Below B a w' := hb.grown h.grown hB hr

/-- A row that is owned reads on, where it lies apart from the row that is appended to. -/
theorem own_onto {w w' : World} {row : Option Nat} {k base : Nat} {e : TypeId} {size : Nat} {v : Value} {n : Nat} {xs : List Value} (h : w.ownsRow base e size v n xs) (ho : Onto w w' row k) (hne : v.ownBlock = none ∨ v.ownBlock ≠ row) : w'.ownsRow base e size v n xs := h.kept ho.grown hne

/-- What is read out of the row's first cells, or elsewhere, is read on. -/
theorem RowR.onto {w w' : World} {row : Option Nat} {k size : Nat} {ao : Option Addr} {n : Nat} {xs : List Value} (h : RowR w size ao n xs) (ho : Onto w w' row k) (hk : ∀ ad, ao = some ad → row = some ad.block → ad.off + xs.length ≤ k) : RowR w' size ao n xs := by
  refine ⟨h.len, h.non, fun ad had => ⟨(h.at' ad had).1, fun j u hu => ?_⟩⟩
  have hs := (h.at' ad had).1
  have hc := (h.at' ad had).2 j u hu
  have hb := World.block_lt_of_cell? _ _ hc
  have hj : j < xs.length := (List.getElem?_eq_some_iff.1 hu).1
  rw [add_at _ hs] at hc hb ⊢
  rw [← hc]
  by_cases hr : row = some ad.block
  · exact ho.first ad.block (ad.off + j) hr (by have := hk ad had hr; omega)
  · exact World.cell?_of_block (ho.grown.block ad.block hb (fun e => hr e.symm))

section
variable {P : Program}

theorem run_append_keep (w : World) (base : Nat) (t ty e : TypeId) (i : TypeInfo) (z : Value) (size bytes : Nat) (ht : P.underlying t = some (.slice e)) (hi : P.info? e = some i) (hz : i.zero = some z)
    (hsize : i.size = size) (hby : i.bytes = bytes) (hzs : z.cells.size = size) (hsz : 0 < size)
    (v : Value) (n : Nat) (xs : List Value) (hown : w.ownsRow base e size v n xs)
    (a : Addr) (m c : Nat) (news : List Value) (hl : news.length = m * size) (hnews : ∀ j u, news[j]? = some u → w.cell? (a.add j) = some u) (h1 : ∀ u ∈ news, u.oneCell' = true)
    (h63 : n + m ≤ maxLen) (hbytes : (n + m) * bytes ≤ 140737488355328) (hbase : base ≤ w.heap.size) :
    ∃ v' w', (Builtin.append_ #[t, t] ty #[v, .slice (some a) m c]).run P w = .ok v' w' ∧ w'.ownsRow base e size v' (n + m) (xs ++ news) ∧ Onto w w' v.ownBlock (n * size) ∧ (v'.ownBlock = v.ownBlock ∨ v'.ownBlock = some w.heap.size) := by
  have hsmall : n + m ≤ 9223372036854775807 := by simp only [maxLen] at h63; omega
  by_cases hroom : ∃ g cap, v = .slice (some ⟨g, 0, none⟩) n cap ∧ n + m ≤ cap
  · obtain ⟨g, cap, rfl, hroom⟩ := hroom
    obtain ⟨v', w', hr, ho, hg, _⟩ := run_append_own (P := P) w base t ty e i z size bytes ht hi hz hsize hby hzs hsz _ n xs hown a m c news hl hnews h1 h63 hbytes hbase
    subst hsize
    rcases hown.2 with ⟨h0, _⟩ | ⟨g', cap', cur, hv, hbg, hgg, hnc, hcm, hcs, htake⟩
    · cases h0
    · simp only [Value.slice.injEq, Option.some.injEq, Addr.mk.injEq] at hv
      obtain ⟨⟨rfl, _⟩, _, rfl⟩ := hv
      have hr2 := run_append_room (P := P) w t ty e i ht hi g n cap cur hgg a m c news hl hnews h1 hroom (by rw [hl, hcs, ← Nat.add_mul]; exact Nat.mul_le_mul_right _ hroom)
      rw [hr] at hr2
      simp only [Result.ok.injEq] at hr2
      obtain ⟨rfl, rfl⟩ := hr2
      refine ⟨_, _, hr, ho, ⟨hg, fun p j hp hj => ?_⟩, .inl rfl⟩
      simp only [Value.ownBlock, Option.some.injEq] at hp
      subst hp
      have hxl : xs.length = n * i.size := hown.1
      obtain ⟨u, hu⟩ : ∃ u, xs[j]? = some u := ⟨xs[j]'(by omega), List.getElem?_eq_getElem (by omega)⟩
      have c1 := hown.cells rfl j u hu
      have c2 := ho.cells rfl j u (by rw [List.getElem?_append_left (by omega)]; exact hu)
      rw [add_at _ rfl] at c1 c2
      simp only [Nat.zero_add] at c1 c2
      rw [c1, c2]
  · subst hsize
    subst hby
    have hlen : (xs ++ news).length = (n + m) * i.size := by rw [List.length_append, hown.1, hl, Nat.add_mul]
    have made : ∀ (old : Nat), ∀ (row : Option Nat) (k : Nat), (∀ p, row = some p → p < w.heap.size) →
        (w.drew.alloc (.cells (xs.toArray ++ news.toArray ++ Builtin.zeroCells z.cells (grownCap w (n + m) old e - (n + m))) e)).ownsRow base e i.size
          (.slice (some ⟨w.heap.size, 0, none⟩) (n + m) (grownCap w (n + m) old e)) (n + m) (xs ++ news) ∧
        Onto w (w.drew.alloc (.cells (xs.toArray ++ news.toArray ++ Builtin.zeroCells z.cells (grownCap w (n + m) old e - (n + m))) e)) row k := by
      intro old row k hl'
      have hge := grownCap_ge w (n + m) old e
      have hcm : grownCap w (n + m) old e ≤ maxLen := grownCap_le_maxLen w (n + m) old e h63
      refine ⟨⟨hlen, .inr ⟨w.heap.size, _, _, rfl, hbase, heap_alloc_new w.drew _, hge, hcm, ?_, ?_⟩⟩, ⟨⟨rfl, rfl, rfl, by simp, fun k hk _ => Below.heap_alloc w.drew _ k hk⟩, fun p j hp _ => World.cell?_of_block (Below.heap_alloc w.drew _ p (hl' p hp))⟩⟩
      · simp only [Array.size_append, List.size_toArray, size_zeroCells, hzs, hown.1, hl, ← Nat.add_mul]
        congr 1
        omega
      · simp only [Array.toList_append, List.append_assoc]
        rw [← List.append_assoc, ← hlen]
        exact List.take_left
    rcases hown.2 with ⟨rfl, rfl⟩ | ⟨g, cap, cur, rfl, hbg, hg, hnc, hcm, hcs, htake⟩
    · have hx : xs = [] := List.eq_nil_of_length_eq_zero (by simpa using hown.1)
      subst hx
      by_cases hm : m = 0
      · subst hm
        obtain ⟨v', w', hr, ho, _, hn⟩ := run_append_own (P := P) w base t ty e i z i.size i.bytes ht hi hz rfl rfl hzs hsz _ 0 [] hown a 0 c news hl hnews h1 h63 hbytes hbase
        have hn' : news = [] := List.eq_nil_of_length_eq_zero (by simpa using hl)
        subst hn'
        refine ⟨.slice none 0 0, w, ?_, World.ownsRow_nil w base e i.size, Onto.refl w _ _, .inl rfl⟩
        simp [Builtin.append_, run_underlying ht, sizeOf, typeInfo, hi, Builtin.lenOf, Builtin.firstCells, loadCells, loadCellsFrom]
      · have hr := run_append_nil (P := P) w t ty e i z ht hi hz a m c news hl hnews (by omega) (by omega) (by have hb := hbytes; simp only [Nat.zero_add] at hb; omega)
        have hgr := made 0 none (0 * i.size) (fun p hp => by cases hp)
        simp only [Nat.zero_add, List.nil_append, Array.empty_append] at hgr ⊢
        exact ⟨_, _, hr, hgr.1, hgr.2, .inr rfl⟩
    · have hno : cap < n + m := by
        by_cases h : n + m ≤ cap
        · exact absurd ⟨g, cap, rfl, h⟩ hroom
        · omega
      have holds : ∀ j u, xs[j]? = some u → w.cell? ((⟨g, 0, none⟩ : Addr).add j) = some u := hown.cells (g := g) rfl
      have hr := run_append_grow (P := P) w t ty e i z ht hi hz ⟨g, 0, none⟩ n cap xs hown.1 holds a m c news hl hnews hno (by omega) (growslice_fits (by omega) hbytes)
      have hgr := made cap (some g) (n * i.size) (fun p hp => by obtain rfl := Option.some.inj hp; exact (Array.getElem?_eq_some_iff.1 hg).1)
      exact ⟨_, _, hr, hgr.1, hgr.2, .inr rfl⟩

theorem wpList_append_keep (w : World) {ops : Array Oper} {rest : List Oper} {o : Oper} {a : Act} {Q : Exit → Act → World → Prop} (hgd : o.guard = none) (s x : Operand) (t : TypeId)
    (ho : o.op = .call { callee := .builtin .append, args := #[s, x], argTypes := #[t, t] })
    (base : Nat) (e : TypeId) (i : TypeInfo) (z : Value) (size bytes : Nat) (ht : P.underlying t = some (.slice e)) (hi : P.info? e = some i) (hz : i.zero = some z)
    (hsize : i.size = size) (hby : i.bytes = bytes) (hzs : z.cells.size = size) (hsz : 0 < size)
    (v : Value) (n : Nat) (xs : List Value) (hs : a.eval s = v) (hown : w.ownsRow base e size v n xs)
    (ad : Addr) (m c : Nat) (news : List Value) (hx : a.eval x = .slice (some ad) m c) (hl : news.length = m * size) (hnews : ∀ j u, news[j]? = some u → w.cell? (ad.add j) = some u) (h1 : ∀ u ∈ news, u.oneCell' = true)
    (h63 : n + m ≤ maxLen) (hbytes : (n + m) * bytes ≤ 140737488355328) (hbase : base ≤ w.heap.size)
    (h : ∀ v' w', w'.ownsRow base e size v' (n + m) (xs ++ news) → Onto w w' v.ownBlock (n * size) → (v'.ownBlock = v.ownBlock ∨ v'.ownBlock = some w.heap.size) → wpList P ops Q rest (a.put o.dst v') w') : wpList P ops Q (o :: rest) a w := by
  refine wpList_plain hgd fun _ hK => ?_
  obtain ⟨v', w', hr, h2, h3, h4⟩ := run_append_keep (P := P) w base t o.type e i z size bytes ht hi hz hsize hby hzs hsz v n xs hown ad m c news hl hnews h1 h63 hbytes hbase
  unfold Oper.wp execOp
  simp only [ho, resolve, invoke, builtin, Sem.run_bind, Sem.run_pure, Result.andThen_ok, List.map_toArray, List.map_cons, List.map_nil, hs, hx, hr]
  exact hK _ _ (h v' w' h2 h3 h4)
end

end Go.Proofs.YtnlmfoccdmkncaaGreatDoor

/-
  A book in memory: its lists of definitions, and the copies; what a call of the book's leaves of the rest. No walk.
-/
namespace Go.Proofs.YtnlmfoccdmkncaaGreatDoor
open Go.RowKit
set_option linter.unusedVariables false
set_option linter.unusedSimpArgs false

set_option maxRecDepth 100000 in
theorem info_slice : (Tryz.prog.info? 40).map (fun i => (i.zero, i.size, i.bytes)) = some (some (.slice none 0 0), 1, 24) := by kernel_rfl

def nilS : Value := .slice none 0 0
/-- A book's cells, where lists of definitions alone are kept. -/
def bookCells (dv wv : Value) : Array Value := #[.slice none 0 0, .slice none 0 0, .slice none 0 0, .slice none 0 0, .slice none 0 0, .slice none 0 0, .slice none 0 0, .slice none 0 0, .slice none 0 0, .slice none 0 0, dv, wv, .slice none 0 0, .slice none 0 0, .slice none 0 0, .slice none 0 0]
def BookAt (w : World) (b : Nat) (dv wv : Value) : Prop := w.heap[b]? = some (.cells (bookCells dv wv) 39 (0, 0))
/-- A list that is kept: the list, the copy, what they read. -/
abbrev KeptV := Value × Value × List DefL

theorem BookAt.cell {w : World} {b : Nat} {dv wv : Value} (h : BookAt w b dv wv) (j : Nat) (u : Value) (hu : (bookCells dv wv)[j]? = some u) : w.cell? ⟨b, j, none⟩ = some u := by rw [cell_of_row w b j _ _ _ h]; exact hu
theorem BookAt.free {w : World} {b : Nat} {dv wv : Value} (h : BookAt w b dv wv) (j : Nat) : w.frozen? ⟨b, j, none⟩ = false := frozen_of_row w b j _ _ h
theorem BookAt.lt {w : World} {b : Nat} {dv wv : Value} (h : BookAt w b dv wv) : b < w.heap.size := (Array.getElem?_eq_some_iff.1 h).1
theorem BookAt.below {w w' : World} {b : Nat} {dv wv : Value} (h : BookAt w b dv wv) (hb : Below w.heap.size w w') : BookAt w' b dv wv := (hb.block b h.lt).trans h
theorem BookAt.setD {w : World} {b : Nat} {dv wv : Value} (h : BookAt w b dv wv) (v : Value) : BookAt (w.setCell ⟨b, 10, none⟩ v) b v wv := Go.heap_setCell_same w b 10 _ _ v h
theorem BookAt.setW {w : World} {b : Nat} {dv wv : Value} (h : BookAt w b dv wv) (v : Value) : BookAt (w.setCell ⟨b, 11, none⟩ v) b dv v := Go.heap_setCell_same w b 11 _ _ v h

/-- A store into a block of another kind leaves a row as it is. -/
theorem own_set {w : World} {base : Nat} {e e' : TypeId} {size : Nat} {v : Value} {n : Nat} {xs : List Value} (h : w.ownsRow base e size v n xs) {a : Addr} {cs : Array Value} {fr : Nat × Nat} (hg : w.heap[a.block]? = some (.cells cs e' fr)) (he : e ≠ e') (u : Value) : (w.setCell a u).ownsRow base e size v n xs := by
  obtain ⟨h1, h2⟩ := h
  refine ⟨h1, ?_⟩
  rcases h2 with h2 | ⟨g, cap, cur, hv, hb, hh, r⟩
  · exact Or.inl h2
  · refine Or.inr ⟨g, cap, cur, hv, hb, ?_, r⟩
    rw [Below.heap_setCell _ _ _ _ (fun e0 => by subst e0; rw [hh] at hg; simp at hg; exact he hg.2.1), hh]

/-- All but blocks of two kinds, books and lists of lists, is as it was. -/
structure SubB (w w' : World) : Prop where
  os : w'.os = w.os
  tape : w'.tape = w.tape
  output : w'.output = w.output
  size : w.heap.size ≤ w'.heap.size
  block : ∀ (k : Nat) (o : Obj), w.heap[k]? = some o → (∀ (cs : Array Value) (t : TypeId) (m : Nat × Nat), o = Obj.cells cs t m → t ≠ 39 ∧ t ≠ 40) → w'.heap[k]? = some o
theorem SubB.refl (w : World) : SubB w w := ⟨rfl, rfl, rfl, Nat.le_refl _, fun _ _ h _ => h⟩
theorem SubB.trans {w w1 w2 : World} (h : SubB w w1) (h' : SubB w1 w2) : SubB w w2 :=
  ⟨h'.os.trans h.os, h'.tape.trans h.tape, h'.output.trans h.output, Nat.le_trans h.size h'.size, fun k o hk ho => h'.block k o (h.block k o hk ho) ho⟩
theorem SubB.ofBelow {w w' : World} (h : Below w.heap.size w w') : SubB w w' :=
  ⟨h.os, h.tape, h.output, h.size, fun k o hk _ => (h.block k (Array.getElem?_eq_some_iff.1 hk).1).trans hk⟩
theorem SubB.ofGrown {w w' : World} {row : Option Nat} (h : w.grownBy w' row) (hr : ∀ k, row = some k → ∃ cs m, w.heap[k]? = some (.cells cs 40 m)) : SubB w w' :=
  ⟨h.os, h.tape, h.output, h.size, fun k o hk ho => (h.block k (Array.getElem?_eq_some_iff.1 hk).1 (fun e => by
    obtain ⟨cs, m, hc⟩ := hr k e.symm
    rw [hk] at hc
    exact (ho cs _ m (Option.some.inj hc)).2 rfl)).trans hk⟩
theorem SubB.ofSet {w : World} {b : Nat} {dv wv : Value} (h : BookAt w b dv wv) (j : Nat) (v : Value) : SubB w (w.setCell ⟨b, j, none⟩ v) :=
  ⟨rfl, rfl, rfl, by simp [World.setCell], fun k o hk ho => by
    rw [Below.heap_setCell _ _ _ _ (fun e => by subst e; rw [h] at hk; exact (ho _ _ _ (Option.some.inj hk).symm).1 rfl)]; exact hk⟩
theorem own_sub {w w' : World} {base : Nat} {e : TypeId} {size : Nat} {v : Value} {n : Nat} {xs : List Value} (h : w.ownsRow base e size v n xs) (hs : SubB w w') (h1 : e ≠ 39) (h2 : e ≠ 40) : w'.ownsRow base e size v n xs := by
  refine ⟨h.1, ?_⟩
  rcases h.2 with hn | ⟨g, cap, cur, rfl, hb, hgg, rest⟩
  · exact .inl hn
  · exact .inr ⟨g, cap, cur, rfl, hb, hs.block g _ hgg (fun cs t m ho => by simp only [Obj.cells.injEq] at ho; obtain ⟨_, rfl, _⟩ := ho; exact ⟨h1, h2⟩), rest⟩
theorem own_row_block {w : World} {base : Nat} {e : TypeId} {size : Nat} {v : Value} {n : Nat} {xs : List Value} (h : w.ownsRow base e size v n xs) : ∀ k, v.ownBlock = some k → ∃ cs m, w.heap[k]? = some (.cells cs e m) := by
  intro k hk
  rcases h.2 with ⟨rfl, _⟩ | ⟨g, cap, cur, rfl, hb, hgg, rest⟩
  · simp [Value.ownBlock] at hk
  · simp [Value.ownBlock] at hk; subst hk; exact ⟨_, _, hgg⟩

/-- A block of another kind is not the row's own. -/
theorem own_far {w : World} {base : Nat} {e T : TypeId} {size n P : Nat} {v : Value} {xs : List Value} {cs : Array Value} (h : w.ownsRow base e size v n xs) (hP : w.heap[P]? = some (.cells cs T (0, 0))) (he : e ≠ T) : some P ≠ v.ownBlock := by
  intro h0
  obtain ⟨cs', m, hc⟩ := own_row_block h P h0.symm
  rw [hP] at hc
  simp at hc
  exact he hc.2.1.symm

/-- The book b keeps the lists L. -/
structure KeptB (w : World) (B b : Nat) (L : List KeptV) : Prop where
  le : B ≤ b
  book : ∃ dv wv, BookAt w b dv wv ∧ w.ownsRow B 40 1 dv L.length (L.map (·.1)) ∧ w.ownsRow B 40 1 wv L.length (L.map (·.2.1)) ∧ (dv.ownBlock = none ∨ dv.ownBlock ≠ wv.ownBlock)
  rows : ∀ x ∈ L, w.ownsRow B 26 5 x.1 x.2.2.length (defCells x.2.2) ∧ w.ownsRow B 26 5 x.2.1 x.2.2.length (defCells x.2.2) ∧ x.2.2.length ≤ 1000000
  apart : L.Pairwise (fun x y => x.1.ownBlock = none ∨ x.1.ownBlock ≠ y.1.ownBlock)
theorem KeptB.below {w w' : World} {B b : Nat} {L : List KeptV} (h : KeptB w B b L) (hb : Below w.heap.size w w') : KeptB w' B b L := by
  obtain ⟨dv, wv, h1, h2, h3, h4⟩ := h.book
  exact ⟨h.le, ⟨dv, wv, h1.below hb, own_below h2 hb, own_below h3 hb, h4⟩, fun x hx => ⟨own_below (h.rows x hx).1 hb, own_below (h.rows x hx).2.1 hb, (h.rows x hx).2.2⟩, h.apart⟩
theorem KeptB.new {w : World} {B b : Nat} (hB : B ≤ b) (h : BookAt w b (.slice none 0 0) (.slice none 0 0)) : KeptB w B b [] :=
  ⟨hB, ⟨_, _, h, World.ownsRow_nil _ _ _ _, World.ownsRow_nil _ _ _ _, .inl rfl⟩, (fun x hx => by cases hx), List.Pairwise.nil⟩

end Go.Proofs.YtnlmfoccdmkncaaGreatDoor

/-
  bowdlerbook.Book.stillDefs: each list is as its copy.
-/
namespace Go.Proofs.YtnlmfoccdmkncaaGreatDoor
open Go.RowKit
set_option maxRecDepth 100000
set_option linter.unusedVariables false
set_option linter.unusedSimpArgs false

/-- A cell of a row of slices. -/
theorem own_at1 {w : World} {B : Nat} {e : TypeId} {v : Value} {n : Nat} {xs : List Value} (h : w.ownsRow B e 1 v n xs) (hn : 0 < n) : ∃ g c, v = .slice (some ⟨g, 0, none⟩) n c ∧ ∀ k u, xs[k]? = some u → w.cell? ⟨g, k, none⟩ = some u := by
  rcases h.2 with ⟨_, h0⟩ | ⟨g, cap, cur, rfl, hb, hgg, rest⟩
  · omega
  · refine ⟨g, cap, rfl, fun k u hu => ?_⟩
    have := h.cells rfl k u hu
    rwa [add_at _ rfl, Nat.zero_add] at this

set_option maxHeartbeats 4000000 in
theorem stillDefs_any (B b : Nat) (L : List KeptV) (w : World) (hK : KeptB w B b L) (hL : L.length ≤ 250) :
    Calls Tryz.prog 39 #[.pointer (some ⟨b, 0, none⟩)] w fun e w' => e = .returned (.bool true) ∧ Below w.heap.size w w' := by
  obtain ⟨N, hN⟩ : ∃ N, L.length = N := ⟨_, rfl⟩
  obtain ⟨hBb, ⟨dv, wv, hbk, hod, how, hap⟩, hrows, hpair⟩ := hK
  rw [hN] at hod how hL
  obtain ⟨dao, dc, rfl, _⟩ := own_slice hod
  obtain ⟨wao, wc, rfl, _⟩ := own_slice how
  have HX := Lib.hid (And.intro hbk (And.intro hod (And.intro how hrows)))
  have HN := Lib.hid hN
  clear hbk hod how hap hrows hpair hN
  go_enter Tryz.func39, Tryz.ntmps39
  go_wp2_with fail
  go_loopw [3] (fun u3 wr => ∃ k : Nat, k ≤ N ∧ u3 = .int .i64 k ∧ Below w.heap.size w wr) (fun u3 _ => N - (intOf u3).toNat)
  case atStart => exact ⟨0, Nat.zero_le _, rfl, Below.refl _ _⟩
  case round =>
    obtain ⟨k, hk, rfl, hB⟩ := hrel
    have c10 : wr.cell? ⟨b, 10, none⟩ = some (.slice dao N dc) := (HX.out.1.below hB).cell 10 _ rfl
    by_cases hlt : k < N
    · have hltI : (k : Int) < (N : Int) := by omega
      obtain ⟨x, hx⟩ : ∃ x, L[k]? = some x := ⟨L[k]'(by have := HN.out; omega), List.getElem?_eq_getElem _⟩
      have c11 : wr.cell? ⟨b, 11, none⟩ = some (.slice wao N wc) := (HX.out.1.below hB).cell 11 _ rfl
      obtain ⟨g1, e1, h1, hc1⟩ := own_at1 (own_below HX.out.2.1 hB) (by omega)
      obtain ⟨g2, e2, h2, hc2⟩ := own_at1 (own_below HX.out.2.2.1 hB) (by omega)
      simp only [Value.slice.injEq] at h1 h2
      obtain ⟨rfl, _, rfl⟩ := h1
      obtain ⟨rfl, _, rfl⟩ := h2
      have d1 := hc1 k x.1 (by rw [List.getElem?_map, hx]; rfl)
      have d2 := hc2 k x.2.1 (by rw [List.getElem?_map, hx]; rfl)
      obtain ⟨r1, r2, r3⟩ := HX.out.2.2.2 x (List.mem_of_getElem? hx)
      have HS := Lib.hid (fun n => sameDefs_yes x.2.2 x.1 x.2.1 (wr.drewN n) (reads_own rfl (own_below (own_below r1 hB) (below_drawn (Below.refl _ wr) n))) (reads_own rfl (own_below (own_below r2 hB) (below_drawn (Below.refl _ wr) n))) (by omega))
      obtain ⟨v1, v2, ds⟩ := x
      clear hc1 hc2 r1 r2 r3 hx
      simp only at d1 d2 HS
      go_wp2_with fail
      go_quiet ((go_at_call 13; exact Calls.quiet_of (HS.out _)))
      go_wp2_with fail
      go_roundw
      case rel => exact ⟨k + 1, by omega, by go_num, below_drawn hB _⟩
      case measure => simp [intOf]; omega
    · obtain rfl : k = N := by omega
      go_wp2_with fail
      go_ret
      exact ⟨rfl, hB⟩

end Go.Proofs.YtnlmfoccdmkncaaGreatDoor

/-
  A book's lists in memory, by their places; a definition is stored into one of them. No walk.
-/
namespace Go.Proofs.YtnlmfoccdmkncaaGreatDoor
open Go.RowKit
set_option linter.unusedVariables false
set_option linter.unusedSimpArgs false

abbrev ListV := Value × List DefL
def Distinct (a b : Option Nat) : Prop := a = none ∨ a ≠ b
theorem Distinct.symm {a b : Option Nat} (h : Distinct a b) : Distinct b a := by
  rcases h with h | h
  · subst h
    cases b with
    | none => exact .inl rfl
    | some x => exact .inr (by simp)
  · exact .inr h.symm

theorem ne_of_lt2 {a b : Option Nat} {n : Nat} (h1 : ∀ q, a = some q → q < n) (h2 : ∀ q, b = some q → n ≤ q) : Distinct a b := by
  cases a with
  | none => exact .inl rfl
  | some q =>
    refine .inr (fun e => ?_)
    have := h1 q rfl
    have := h2 q e.symm
    omega

structure ListsB (w : World) (B b : Nat) (M : List ListV) : Prop where
  le : B ≤ b
  book : ∃ dv wv, BookAt w b dv wv ∧ w.ownsRow B 40 1 dv M.length (M.map (·.1))
  rows : ∀ (j : Nat) (x : ListV), M[j]? = some x → w.ownsRow B 26 5 x.1 x.2.length (defCells x.2) ∧ x.2.length ≤ 1000000
  apart : ∀ (i j : Nat) (x y : ListV), i ≠ j → M[i]? = some x → M[j]? = some y → Distinct x.1.ownBlock y.1.ownBlock

theorem KeptB.lists {w : World} {B b : Nat} {L : List KeptV} (h : KeptB w B b L) : ListsB w B b (L.map fun x => (x.1, x.2.2)) := by
  obtain ⟨dv, wv, h1, h2, h3, h4⟩ := h.book
  refine ⟨h.le, ⟨dv, wv, h1, by simpa [Function.comp_def] using h2⟩, fun j x hx => ?_, fun i j x y hij hx hy => ?_⟩
  · rw [List.getElem?_map] at hx
    obtain ⟨z, hz, rfl⟩ := Option.map_eq_some_iff.1 hx
    obtain ⟨r1, r2, r3⟩ := h.rows z (List.mem_of_getElem? hz)
    exact ⟨r1, r3⟩
  · rw [List.getElem?_map] at hx hy
    obtain ⟨z, hz, rfl⟩ := Option.map_eq_some_iff.1 hx
    obtain ⟨t, ht, rfl⟩ := Option.map_eq_some_iff.1 hy
    obtain ⟨hzl, hze⟩ := List.getElem?_eq_some_iff.1 hz
    obtain ⟨htl, hte⟩ := List.getElem?_eq_some_iff.1 ht
    have hp := List.pairwise_iff_getElem.1 h.apart
    rcases Nat.lt_or_gt_of_ne hij with hlt | hlt
    · have := hp i j hzl htl hlt
      rw [hze, hte] at this
      exact this
    · have := hp j i htl hzl hlt
      rw [hze, hte] at this
      exact Distinct.symm this

theorem ListsB.below {w w' : World} {B b : Nat} {M : List ListV} (h : ListsB w B b M) (hb : Below w.heap.size w w') : ListsB w' B b M := by
  obtain ⟨dv, wv, h1, h2⟩ := h.book
  exact ⟨h.le, ⟨dv, wv, h1.below hb, own_below h2 hb⟩, fun j x hx => ⟨own_below (h.rows j x hx).1 hb, (h.rows j x hx).2⟩, h.apart⟩

/-- A store into a row of the call's own. -/
theorem own_setSelf {w : World} {base : Nat} {e : TypeId} {size g n c : Nat} {xs : List Value} (h : w.ownsRow base e size (.slice (some ⟨g, 0, none⟩) n c) n xs) (j : Nat) (u : Value) (hj : j < n * size) :
    (w.setCell ⟨g, j, none⟩ u).ownsRow base e size (.slice (some ⟨g, 0, none⟩) n c) n (xs.set j u) := by
  refine ⟨by rw [List.length_set]; exact h.1, ?_⟩
  rcases h.2 with ⟨h0, _⟩ | ⟨g', cap, cur, hv, hb, hgg, h1, h2, h3, h4⟩
  · cases h0
  · simp only [Value.slice.injEq, Option.some.injEq, Addr.mk.injEq, true_and, and_true] at hv
    obtain ⟨rfl, rfl⟩ := hv
    refine .inr ⟨g, c, cur.setIfInBounds j u, rfl, hb, Go.heap_setCell_same w g j cur e u hgg, h1, h2, by simpa using h3, ?_⟩
    rw [Array.toList_setIfInBounds, ← h4, List.take_set]

theorem set_skip {a b : List Value} (k : Nat) (u : Value) (h : a.length = k) (m : Nat) : (a ++ b).set (k + m) u = a ++ b.set m u := by
  subst h
  rw [List.set_append_right _ _ (by omega)]
  congr 2
  omega
theorem defCells_set : ∀ (l : List DefL) (k : Nat) (d : DefL), k < l.length →
    ((((((defCells l).set (k * 5) (.string ⟨d.name.toArray⟩)).set (k * 5 + 1) (.string ⟨d.url.toArray⟩)).set (k * 5 + 2) (.string ⟨d.title.toArray⟩)).set (k * 5 + 3) (.string ⟨d.text.toArray⟩)).set (k * 5 + 4) (.bool d.note)) = defCells (l.set k d)
  | [], k, d, h => by simp at h
  | x :: l, 0, d, h => by simp [defCells, DefL.cells]
  | x :: l, k + 1, d, h => by
    have ih := defCells_set l k d (by simpa using h)
    have e : defCells (x :: l) = x.cells ++ defCells l := rfl
    have e2 : defCells ((x :: l).set (k + 1) d) = x.cells ++ defCells (l.set k d) := rfl
    rw [e, e2, ← ih, show (k + 1) * 5 = 5 + k * 5 by omega, show 5 + k * 5 + 1 = 5 + (k * 5 + 1) by omega, show 5 + k * 5 + 2 = 5 + (k * 5 + 2) by omega, show 5 + k * 5 + 3 = 5 + (k * 5 + 3) by omega, show 5 + k * 5 + 4 = 5 + (k * 5 + 4) by omega,
      set_skip 5 _ rfl, set_skip 5 _ rfl, set_skip 5 _ rfl, set_skip 5 _ rfl, set_skip 5 _ rfl]

/-- The world with a definition stored at a place of a block. -/
def setD5 (w : World) (g o : Nat) (d : DefL) : World := ((((w.setCell ⟨g, o, none⟩ (.string ⟨d.name.toArray⟩)).setCell ⟨g, o + 1, none⟩ (.string ⟨d.url.toArray⟩)).setCell ⟨g, o + 2, none⟩ (.string ⟨d.title.toArray⟩)).setCell ⟨g, o + 3, none⟩ (.string ⟨d.text.toArray⟩)).setCell ⟨g, o + 4, none⟩ (.bool d.note)
theorem setD5_size (w : World) (g o : Nat) (d : DefL) : (setD5 w g o d).heap.size = w.heap.size := by simp [setD5, World.setCell]
theorem setD5_other (w : World) (g o : Nat) (d : DefL) (k : Nat) (h : k ≠ g) : (setD5 w g o d).heap[k]? = w.heap[k]? := by
  unfold setD5
  have hk : ∀ (w : World) (j : Nat) (u : Value), (w.setCell ⟨g, j, none⟩ u).heap[k]? = w.heap[k]? := fun w j u => Below.heap_setCell _ _ _ _ h
  rw [hk, hk, hk, hk, hk]
theorem own_setD5 {w : World} {base g n c : Nat} {l : List DefL} (h : w.ownsRow base 26 5 (.slice (some ⟨g, 0, none⟩) n c) n (defCells l)) (k : Nat) (d : DefL) (hk : k < n) (hn : n = l.length) :
    (setD5 w g (k * 5) d).ownsRow base 26 5 (.slice (some ⟨g, 0, none⟩) n c) n (defCells (l.set k d)) := by
  rw [← defCells_set l k d (by omega)]
  exact own_setSelf (own_setSelf (own_setSelf (own_setSelf (own_setSelf h _ _ (by omega)) _ _ (by omega)) _ _ (by omega)) _ _ (by omega)) _ _ (by omega)
theorem own_setD5_other {w : World} {base g o : Nat} {d : DefL} {e : TypeId} {size : Nat} {v : Value} {n : Nat} {xs : List Value} (h : w.ownsRow base e size v n xs) (hne : Distinct v.ownBlock (some g)) : (setD5 w g o d).ownsRow base e size v n xs := by
  refine ⟨h.1, ?_⟩
  rcases h.2 with hn | ⟨g', cap, cur, rfl, hb, hgg, rest⟩
  · exact .inl hn
  · refine .inr ⟨g', cap, cur, rfl, hb, ?_, rest⟩
    rw [setD5_other _ _ _ _ _ (by rcases hne with h0 | h0 <;> simp [Value.ownBlock] at h0; exact h0)]
    exact hgg
theorem below_setD5 {B : Nat} {a w : World} (h : Below B a w) (g o : Nat) (d : DefL) (hg : B ≤ g) : Below B a (setD5 w g o d) :=
  ((((h.setCell (p := ⟨g, o, none⟩) hg _).setCell (p := ⟨g, o + 1, none⟩) hg _).setCell (p := ⟨g, o + 2, none⟩) hg _).setCell (p := ⟨g, o + 3, none⟩) hg _).setCell (p := ⟨g, o + 4, none⟩) hg _

theorem ListsB.set5 {w : World} {B b : Nat} {M : List ListV} (h : ListsB w B b M) (i g n c : Nat) (l : List DefL) (hi : M[i]? = some (.slice (some ⟨g, 0, none⟩) n c, l)) (k : Nat) (d : DefL) (hk : k < l.length) :
    ListsB (setD5 w g (k * 5) d) B b (M.set i (.slice (some ⟨g, 0, none⟩) n c, l.set k d)) ∧ B ≤ g := by
  obtain ⟨dv, wv, h1, h2⟩ := h.book
  obtain ⟨hil, hie⟩ := List.getElem?_eq_some_iff.1 hi
  have hr := h.rows i _ hi
  obtain ⟨cs, m, hgb⟩ := own_row_block hr.1 g rfl
  have hBg := (hr.1.lt g rfl).1
  have hn : n = l.length := by
    obtain ⟨ao, c', hv, _⟩ := own_slice hr.1
    simp only [Value.slice.injEq] at hv
    exact hv.2.1
  subst hn
  refine ⟨⟨h.le, ⟨dv, wv, ?_, ?_⟩, fun j x hx => ?_, fun i' j' x y hij hx hy => ?_⟩, hBg⟩
  · refine (setD5_other _ _ _ _ _ (fun e => ?_)).trans h1
    subst e
    unfold BookAt at h1
    rw [hgb] at h1
    simp at h1
  · rw [List.length_set, List.map_set]
    have : (M.map (·.1)).set i (Value.slice (some ⟨g, 0, none⟩) l.length c) = M.map (·.1) := by
      apply List.ext_getElem? 
      intro q
      rw [List.getElem?_set]
      split
      · rename_i hq
        subst hq
        rw [List.getElem?_map, hi]
        simp [hil]
      · rfl
    rw [this]
    refine own_setD5_other h2 ?_
    rcases own_apart h2 hr.1 (by decide) with h0 | h0
    · exact .inl h0
    · exact .inr h0
  · rw [List.getElem?_set] at hx
    split at hx
    · rename_i hij
      subst hij
      try rw [if_pos hil] at hx
      obtain rfl := Option.some.inj hx
      simp only [List.length_set]
      exact ⟨own_setD5 hr.1 k d hk rfl, hr.2⟩
    · rename_i hij
      exact ⟨own_setD5_other (h.rows j x hx).1 (h.apart j i x _ (fun e => hij e.symm) hx hi), (h.rows j x hx).2⟩
  · have hb : ∀ (q : Nat) (z : ListV), (M.set i (Value.slice (some ⟨g, 0, none⟩) l.length c, l.set k d))[q]? = some z → ∃ z', M[q]? = some z' ∧ z'.1 = z.1 := by
      intro q z hz
      rw [List.getElem?_set] at hz
      split at hz
      · rename_i hiq
        subst hiq
        try rw [if_pos hil] at hz
        obtain rfl := Option.some.inj hz
        exact ⟨_, hi, rfl⟩
      · exact ⟨z, hz, rfl⟩
    obtain ⟨x', hx', ex⟩ := hb i' x hx
    obtain ⟨y', hy', ey⟩ := hb j' y hy
    rw [← ex, ← ey]
    exact h.apart i' j' x' y' hij hx' hy'

end Go.Proofs.YtnlmfoccdmkncaaGreatDoor

/-
  string([]byte{c}): a byte as a text.
-/
namespace Go.Proofs.YtnlmfoccdmkncaaGreatDoor
open Go.RowKit

theorem one_byte (W : World) (c : UInt8) (g : Nat) (hg : g = W.heap.size) :
    (convert 85 9 (.slice (some ⟨g, 0, none⟩) 1 1)).run Tryz.prog (W.alloc (.cells #[.int .u8 (c.toNat : Int)] 5)) = .ok (.string ⟨#[c]⟩) (W.alloc (.cells #[.int .u8 (c.toNat : Int)] 5)) := by
  subst hg
  exact run_convert_bytes_back (W.alloc (.cells #[.int .u8 (c.toNat : Int)] 5)) 85 9 5 ⟨W.heap.size, 0, none⟩ 1 [c] Tryz.underlying85 Tryz.underlying5 Tryz.underlying9 (fun j hj => by
    have : j = 0 := by simp at hj; exact hj
    subst this
    simp [Addr.add])

end Go.Proofs.YtnlmfoccdmkncaaGreatDoor

/-
  bowdlerbook.name, markDefs: a mark of a place; marks as definitions.
-/
namespace Go.Proofs.YtnlmfoccdmkncaaGreatDoor
open Go.RowKit
set_option maxRecDepth 100000
set_option linter.unusedVariables false
set_option linter.unusedSimpArgs false

theorem bytes_text (W : World) (l : List UInt8) (cs : Array Value) (hcs : cs = (l.map fun c => Value.int .u8 (c.toNat : Int)).toArray) (n g : Nat) (hn : n = l.length) (hg : g = W.heap.size) :
    (convert 85 9 (.slice (some ⟨g, 0, none⟩) n n)).run Tryz.prog (W.alloc (.cells cs 5)) = .ok (.string ⟨l.toArray⟩) (W.alloc (.cells cs 5)) := by
  subst hg hcs hn
  exact run_convert_bytes_back (W.alloc (.cells (l.map fun c => Value.int .u8 (c.toNat : Int)).toArray 5)) 85 9 5 ⟨W.heap.size, 0, none⟩ l.length l Tryz.underlying85 Tryz.underlying5 Tryz.underlying9 (fun j hj => by
    rw [add_at _ rfl]
    simp [hj])

theorem mark_cells (i k : Nat) : #[Value.int .u8 109, .int .u8 (65 + (i : Int) % 26), .int .u8 (65 + (i : Int) / 26 % 26), .int .u8 (48 + (k : Int) % 10), .int .u8 (48 + (k : Int) / 10 % 10), .int .u8 (48 + (k : Int) / 100 % 10)] = ((markName i k).map fun c => Value.int .u8 (c.toNat : Int)).toArray := by
  unfold markName
  simp only [List.map_cons, List.map_nil, UInt8.toNat_ofNat']
  congr 1
  simp only [List.cons.injEq, Value.int.injEq, true_and, and_true]
  refine ⟨rfl, ?_, ?_, ?_, ?_, ?_⟩ <;> omega

theorem mark_any (i k : Nat) (hi : i ≤ 1000000) (hk : k ≤ 1000000) (w : World) :
    Calls Tryz.prog 124 #[.int .i64 (i : Int), .int .i64 (k : Int)] w fun e w' => e = .returned (.string ⟨(markName i k).toArray⟩) ∧ Below w.heap.size w w' := by
  have cv := bytes_text w (markName i k) _ (mark_cells i k) 6 w.heap.size rfl rfl
  obtain ⟨M, hM⟩ : ∃ M : ByteArray, ⟨(markName i k).toArray⟩ = M := ⟨_, rfl⟩
  rw [hM] at cv ⊢
  have u1 : IntKind.u8.wrap (65 + (i : Int) % 26) = 65 + (i : Int) % 26 := IntWalk.u8_in _ (by omega)
  have u2 : IntKind.u8.wrap (65 + (i : Int) / 26 % 26) = 65 + (i : Int) / 26 % 26 := IntWalk.u8_in _ (by omega)
  have u3 : IntKind.u8.wrap (48 + (k : Int) % 10) = 48 + (k : Int) % 10 := IntWalk.u8_in _ (by omega)
  have u4 : IntKind.u8.wrap (48 + (k : Int) / 10 % 10) = 48 + (k : Int) / 10 % 10 := IntWalk.u8_in _ (by omega)
  have u5 : IntKind.u8.wrap (48 + (k : Int) / 100 % 10) = 48 + (k : Int) / 100 % 10 := IntWalk.u8_in _ (by omega)
  clear hM
  go_enter Tryz.func124, Tryz.ntmps124
  go_wp2_with fail
  go_ret
  exact ⟨rfl, (Below.refl _ w).alloc (Nat.le_refl _) _⟩

set_option maxHeartbeats 2000000 in
theorem markDefs_any (i f n : Nat) (hi : i ≤ 1000000) (hf : f + n ≤ 1000000) (w : World) :
    Calls Tryz.prog 96 #[.int .i64 (i : Int), .int .i64 (f : Int), .int .i64 (n : Int)] w fun e w' => ∃ v, e = .returned v ∧ w'.ownsRow w.heap.size 26 5 v n (defCells (marks i f n)) ∧ Below w.heap.size w w' := by
  obtain ⟨i0, hinf, hz0, hz1, hz2⟩ := info_parts infoDef
  go_enter Tryz.func96, Tryz.ntmps96
  go_wp2_with fail
  go_loopw [7, 8] (fun u7 u8 wr => ∃ j : Nat, j ≤ n ∧ u8 = .int .i64 ((f + j : Nat) : Int) ∧ wr.ownsRow w.heap.size 26 5 u7 j (defCells (marks i f j)) ∧ Below w.heap.size w wr) (fun _ u8 _ => (f + n) - (intOf u8).toNat)
  case atStart => exact ⟨0, Nat.zero_le _, rfl, World.ownsRow_nil _ _ _ _, Below.refl _ _⟩
  case round =>
    obtain ⟨j, hj, rfl, hown, hB⟩ := hrel
    by_cases hlt : j < n
    · have t1 : ((f + j : Nat) : Int) < (f : Int) + (n : Int) := by omega
      obtain ⟨K, hK⟩ : ∃ K : Nat, f + j = K := ⟨_, rfl⟩
      rw [hK] at t1 ⊢
      have HK := Lib.hid hK
      have hKb : K ≤ 1000000 := by omega
      have hc := fun W => mark_any i K hi hKb W
      obtain ⟨M, hM⟩ : ∃ M : ByteArray, ⟨(markName i K).toArray⟩ = M := ⟨_, rfl⟩
      have hcell : defCells (marks i f (j + 1)) = defCells (marks i f j) ++ [.string M, .string ⟨#[]⟩, .string ⟨#[]⟩, .string ⟨#[]⟩, .bool false] := by
        rw [marks_succ, defCells_snoc, hK, ← hM]; rfl
      rw [hM] at hc
      have HC := Lib.hid hc
      have HL := Lib.hid hcell
      clear hc hcell hM hK
      go_wp2_with fail
      refine (HC.out _).mono ?_
      rintro e w2 ⟨rfl, b2⟩
      have hB2 := below_step hB b2
      have hown2 := own_below hown b2
      clear hown hB b2
      go_wp2_with (first
        | (at_builtin; refine wpList_append_own _ rfl _ _ 40 rfl w.heap.size 26 i0 (.agg #[.string ⟨#[]⟩, .string ⟨#[]⟩, .string ⟨#[]⟩, .string ⟨#[]⟩, .bool false]) 5 72 Tryz.underlying40 hinf hz0 hz1 hz2 rfl (by decide) _ _ _ rfl (hown2.alloc _) ⟨w2.heap.size, 0, none⟩ 1 1 [.string M, .string ⟨#[]⟩, .string ⟨#[]⟩, .string ⟨#[]⟩, .bool false] rfl rfl ?c1 ?c2 ?c3 ?c4 ?c5 ?_))
      case c1 => exact cells_new _ _ _ _ rfl
      case c2 => intro u hu; simp at hu; rcases hu with rfl | rfl | rfl | rfl | rfl <;> rfl
      case c3 => unfold maxLen; omega
      case c4 => omega
      case c5 => have := hB2.size; simp; omega
      intro v' w4 hown4 hgrow _
      have hB4 := (hB2.alloc hB2.size (.cells #[.string M, .string ⟨#[]⟩, .string ⟨#[]⟩, .string ⟨#[]⟩, .bool false] 26)).grown hgrow (by have := hB2.size; simp; omega) (fun j hj => (hown2.lt j hj).1)
      rw [← HL.out] at hown4
      clear hgrow hown2 hB2
      go_wp2_with fail
      go_roundw
      case rel => exact ⟨j + 1, by omega, by have := HK.out; go_num, hown4, hB4⟩
      case measure => simp [intOf]; omega
    · obtain rfl : j = n := by omega
      have t1 : ¬ (((f + j : Nat) : Int) < (f : Int) + (j : Int)) := by omega
      go_wp2_with fail
      go_ret
      exact ⟨u7, rfl, hown, hB⟩

end Go.Proofs.YtnlmfoccdmkncaaGreatDoor

/-
  bowdlerbook.Book.putDefs: all lists are marked, each with marks of its own.
-/
namespace Go.Proofs.YtnlmfoccdmkncaaGreatDoor
open Go.RowKit
set_option maxRecDepth 100000
set_option linter.unusedVariables false
set_option linter.unusedSimpArgs false

/-- The lists ahead of i are marked. -/
def markTo (M : List ListV) (i : Nat) : List ListV := M.mapIdx fun j x => if j < i then (x.1, marks j 0 x.2.length) else x
theorem markTo_len (M : List ListV) (i : Nat) : (markTo M i).length = M.length := by simp [markTo]
theorem markTo_zero (M : List ListV) : markTo M 0 = M := by
  apply List.ext_getElem?
  intro j
  simp [markTo]
theorem markTo_at (M : List ListV) (i : Nat) : (markTo M i)[i]? = M[i]? := by
  unfold markTo
  rw [List.getElem?_mapIdx]
  cases M[i]? <;> simp
theorem markTo_succ (M : List ListV) (i : Nat) (x : ListV) (hx : M[i]? = some x) : (markTo M i).set i (x.1, marks i 0 x.2.length) = markTo M (i + 1) := by
  apply List.ext_getElem?
  intro j
  rw [List.getElem?_set]
  unfold markTo
  rw [List.getElem?_mapIdx, List.getElem?_mapIdx]
  by_cases hij : i = j
  · subst hij
    have hl := (List.getElem?_eq_some_iff.1 hx).1
    rw [if_pos rfl, List.length_mapIdx, if_pos hl, hx]
    simp
  · rw [if_neg hij]
    cases M[j]? with
    | none => rfl
    | some z =>
      simp only [Option.map_some]
      have : j < i ↔ j < i + 1 := by omega
      simp only [this]

/-- A list of which the first k are marked. -/
def half (i : Nat) (l : List DefL) (k : Nat) : List DefL := marks i 0 k ++ l.drop k
theorem half_zero (i : Nat) (l : List DefL) : half i l 0 = l := rfl
theorem half_len (i : Nat) (l : List DefL) (k : Nat) (h : k ≤ l.length) : (half i l k).length = l.length := by simp [half, marks_len]; omega
theorem half_all (i : Nat) (l : List DefL) : half i l l.length = marks i 0 l.length := by simp [half]
theorem half_set (i : Nat) (l : List DefL) (k : Nat) (h : k < l.length) : (half i l k).set k (markDef i k) = half i l (k + 1) := by
  unfold half
  rw [marks_succ, Nat.zero_add, List.set_append_right _ _ (by rw [marks_len]; exact Nat.le_refl _), marks_len, Nat.sub_self, List.drop_eq_getElem_cons h, List.set_cons_zero, List.append_assoc]
  rfl

theorem set_same {M : List ListV} {i : Nat} {x : ListV} (h : M[i]? = some x) : M.set i x = M := by
  apply List.ext_getElem?
  intro q
  rw [List.getElem?_set]
  split
  · rename_i hq
    subst hq
    rw [h]
    simp [(List.getElem?_eq_some_iff.1 h).1]
  · rfl

set_option maxHeartbeats 8000000 in
theorem putDefs_any (B b : Nat) (M : List ListV) (w : World) (hM : ListsB w B b M) (hN : M.length ≤ 1000) (hB : B ≤ w.heap.size) :
    Calls Tryz.prog 47 #[.pointer (some ⟨b, 0, none⟩)] w fun e w' => e = .returned (.tuple #[]) ∧ ListsB w' B b (markTo M M.length) ∧ Below B w w' := by
  obtain ⟨N, hNe⟩ : ∃ N, M.length = N := ⟨_, rfl⟩
  rw [hNe] at hN ⊢
  have HN := Lib.hid hNe
  have HM := Lib.hid hM
  clear hNe hM
  go_enter Tryz.func47, Tryz.ntmps47
  go_wp2_with fail
  go_loopw [2] (fun u2 wr => ∃ i : Nat, i ≤ N ∧ u2 = .int .i64 i ∧ ListsB wr B b (markTo M i) ∧ Below B w wr ∧ B ≤ wr.heap.size) (fun u2 _ => N - (intOf u2).toNat)
  case atStart => exact ⟨0, Nat.zero_le _, rfl, by rw [markTo_zero]; exact HM.out, Below.refl _ _, hB⟩
  case round =>
    obtain ⟨i, hi, rfl, hL, hb, hBs⟩ := hrel
    obtain ⟨dv, wv, hbk, hod⟩ := hL.book
    rw [markTo_len, HN.out] at hod
    obtain ⟨dao, dc, rfl, _⟩ := own_slice hod
    have c10 : wr.cell? ⟨b, 10, none⟩ = some (.slice dao N dc) := hbk.cell 10 _ rfl
    by_cases hlt : i < N
    · have hltI : (i : Int) < (N : Int) := by omega
      obtain ⟨x, hx⟩ : ∃ x, M[i]? = some x := ⟨M[i]'(by have := HN.out; omega), List.getElem?_eq_getElem _⟩
      have hxm := (markTo_at M i).trans hx
      obtain ⟨g1, e1, h1, hc1⟩ := own_at1 hod (by omega)
      simp only [Value.slice.injEq] at h1
      obtain ⟨rfl, _, rfl⟩ := h1
      have d1 := hc1 i x.1 (by rw [List.getElem?_map, hxm]; rfl)
      obtain ⟨v, l⟩ := x
      obtain ⟨hrow, hlen⟩ := hL.rows i _ hxm
      simp only at d1 hrow hlen
      obtain ⟨n, hn⟩ : ∃ n, l.length = n := ⟨_, rfl⟩
      rw [hn] at hrow hlen
      obtain ⟨vao, vc, rfl, _⟩ := own_slice hrow
      have HL := Lib.hid (And.intro hL (And.intro hb (And.intro hBs hrow)))
      have HX := Lib.hid (And.intro hx (And.intro hxm hn))
      have HMK := Lib.hid (show ∀ W : World, Calls Tryz.prog 96 #[.int .i64 (i : Int), .int .i64 0, .int .i64 (n : Int)] W fun e w' => ∃ v, e = .returned v ∧ w'.ownsRow W.heap.size 26 5 v n (defCells (marks i 0 n)) ∧ Below W.heap.size W w' from fun W => markDefs_any i 0 n (by omega) (by omega) W)
      clear hL hb hrow hbk hod hc1 hx hxm hn hBs
      go_wp2_with fail
      refine (HMK.out _).mono ?_
      rintro e w3 ⟨mv, rfl, hm, b3⟩
      obtain ⟨mao, mc, rfl, _⟩ := own_slice hm
      obtain ⟨wi, hwi⟩ : ∃ wi, wr.heap.size = wi := ⟨_, rfl⟩
      have HI := Lib.hid (And.intro hwi (And.intro hm b3))
      clear hm b3 hwi HMK c10 d1
      go_wp2_with fail
      obtain ⟨wo, rfl⟩ : ∃ wo : World, wo = wr := ⟨_, rfl⟩
      go_loopw [4] (fun u4 w5 => ∃ k : Nat, k ≤ n ∧ u4 = .int .i64 k ∧ ListsB w5 B b ((markTo M i).set i (.slice vao n vc, half i l k)) ∧ Below B w w5 ∧ B ≤ w5.heap.size ∧ w5.ownsRow wi 26 5 (.slice mao n mc) n (defCells (marks i 0 n))) (fun u4 _ => n - (intOf u4).toNat)
      case atStart =>
        obtain ⟨hL, hb, hBs, hrow⟩ := HL.out
        obtain ⟨hwi, hm, b3⟩ := HI.out
        rw [hwi] at hm
        exact ⟨0, Nat.zero_le _, rfl, by rw [half_zero, set_same HX.out.2.1]; exact hL.below b3, hb.trans (b3.mono hBs), Nat.le_trans hBs b3.size, hm⟩
      case round =>
        obtain ⟨k, hk, rfl, hL5, hb5, hBs5, hm5⟩ := hrel
        by_cases hkn : k < n
        · have hkI : (k : Int) < (n : Int) := by omega
          obtain ⟨dv, wv, hbk, hod⟩ := hL5.book
          rw [List.length_set, markTo_len, HN.out] at hod
          obtain ⟨dao, dc2, rfl, _⟩ := own_slice hod
          have hlm : i < (markTo M i).length := by rw [markTo_len, HN.out]; exact hlt
          have hset : ((markTo M i).set i (Value.slice vao n vc, half i l k))[i]? = some (Value.slice vao n vc, half i l k) := by rw [List.getElem?_set]; simp [hlm]
          obtain ⟨g2, e2, h2, hc2⟩ := own_at1 hod (by omega)
          simp only [Value.slice.injEq] at h2
          obtain ⟨rfl, _, rfl⟩ := h2
          have c10 : wr.cell? ⟨b, 10, none⟩ = some (.slice (some ⟨g2, 0, none⟩) N dc2) := hbk.cell 10 _ rfl
          have d1 := hc2 i (.slice vao n vc) (by rw [List.getElem?_map, hset]; rfl)
          have hr := (hL5.rows i _ hset).1
          simp only at hr
          rw [half_len i l k (by rw [HX.out.2.2]; omega), HX.out.2.2] at hr
          obtain ⟨g, cap, hv, hBg, hgl⟩ := hr.form (by omega)
          simp only [Value.slice.injEq, true_and] at hv
          obtain ⟨rfl, rfl⟩ := hv
          obtain ⟨gm, capm, hv, hwm, hgml⟩ := hm5.form (by omega)
          simp only [Value.slice.injEq, true_and] at hv
          obtain ⟨rfl, rfl⟩ := hv
          have hgne : gm ≠ g := by
            have hlt0 := (HL.out.2.2.2.lt g rfl).2
            have := HI.out.1
            omega
          have hrm : RowR wr 5 (some ⟨gm, 0, none⟩) n (defCells (marks i 0 n)) := (own_rowR hm5).2.1
          have m0 := hrm.defCell k 0 _ _ (marks_at i 0 n k hkn) (by decide) rfl
          have m1 := hrm.defCell k 1 _ _ (marks_at i 0 n k hkn) (by decide) rfl
          have m2 := hrm.defCell k 2 _ _ (marks_at i 0 n k hkn) (by decide) rfl
          have m3 := hrm.defCell k 3 _ _ (marks_at i 0 n k hkn) (by decide) rfl
          have m4 := hrm.defCell k 4 _ _ (marks_at i 0 n k hkn) (by decide) rfl
          simp only [Nat.zero_add, Nat.add_zero, markDef] at m0 m1 m2 m3 m4
          obtain ⟨old, hold⟩ : ∃ d, (half i l k)[k]? = some d := ⟨(half i l k)[k]'(by rw [half_len i l k (by rw [HX.out.2.2]; omega), HX.out.2.2]; exact hkn), List.getElem?_eq_getElem _⟩
          have hro : RowR wr 5 (some ⟨g, 0, none⟩) n (defCells (half i l k)) := (own_rowR hr).2.1
          have o0 := hro.defCell k 0 _ _ hold (by decide) rfl
          have o1 := hro.defCell k 1 _ _ hold (by decide) rfl
          have o2 := hro.defCell k 2 _ _ hold (by decide) rfl
          have o3 := hro.defCell k 3 _ _ hold (by decide) rfl
          have o4 := hro.defCell k 4 _ _ hold (by decide) rfl
          simp only [Nat.zero_add, Nat.add_zero] at o0 o1 o2 o3 o4
          obtain ⟨fcs, fm, hfg⟩ := own_row_block hr g rfl
          have hfree : ∀ j, wr.frozen? ⟨g, j, none⟩ = false := by
            rcases hr.2 with ⟨h0, _⟩ | ⟨g', cap', cur, hv', _, hgg, _⟩
            · cases h0
            · simp only [Value.slice.injEq, Option.some.injEq, Addr.mk.injEq, true_and, and_true] at hv'
              obtain ⟨rfl, _⟩ := hv'
              intro j; exact frozen_of_row _ _ _ _ _ hgg
          have f0 := hfree (k * 5)
          have f1 := hfree (k * 5 + 1)
          have f2 := hfree (k * 5 + 2)
          have f3 := hfree (k * 5 + 3)
          have f4 := hfree (k * 5 + 4)
          obtain ⟨y0, hy0⟩ : ∃ y : ByteArray, ⟨(markName i k).toArray⟩ = y := ⟨_, rfl⟩
          rw [hy0] at m0
          obtain ⟨z0, hz0⟩ : ∃ z : Value, .string ⟨old.name.toArray⟩ = z := ⟨_, rfl⟩
          obtain ⟨z1, hz1⟩ : ∃ z : Value, .string ⟨old.url.toArray⟩ = z := ⟨_, rfl⟩
          obtain ⟨z2, hz2⟩ : ∃ z : Value, .string ⟨old.title.toArray⟩ = z := ⟨_, rfl⟩
          obtain ⟨z3, hz3⟩ : ∃ z : Value, .string ⟨old.text.toArray⟩ = z := ⟨_, rfl⟩
          obtain ⟨z4, hz4⟩ : ∃ z : Value, .bool old.note = z := ⟨_, rfl⟩
          rw [hz0] at o0
          rw [hz1] at o1
          rw [hz2] at o2
          rw [hz3] at o3
          rw [hz4] at o4
          have HY := Lib.hid hy0
          have H5 := Lib.hid (And.intro hL5 (And.intro hb5 (And.intro hBs5 (And.intro hm5 (And.intro hset (And.intro hgl hBg))))))
          clear hL5 hb5 hBs5 hm5 hset hbk hod hc2 hr hrm hro hold hfree hfg hy0 hz0 hz1 hz2 hz3 hz4 hlm hgl hgml hBg hwm
          go_wp2_with fail
          go_region
          have hkl : k < (half i l k).length := by rw [half_len i l k (by rw [HX.out.2.2]; omega), HX.out.2.2]; exact hkn
          obtain ⟨hs5, hBg⟩ := H5.out.1.set5 i g n vc (half i l k) H5.out.2.2.2.2.1 k (markDef i k) hkl
          rw [half_set i l k (by rw [HX.out.2.2]; exact hkn), List.set_set] at hs5
          have hb6 := below_setD5 H5.out.2.1 g (k * 5) (markDef i k) hBg
          have hm6 := own_setD5_other (g := g) (o := k * 5) (d := markDef i k) H5.out.2.2.2.1 (.inr (by simp [Value.ownBlock]; exact hgne))
          have hz6 : B ≤ (setD5 wr g (k * 5) (markDef i k)).heap.size := by rw [setD5_size]; exact H5.out.2.2.1
          have e6 : (((((wr.setCell ⟨g, k * 5, none⟩ (.string y0)).setCell ⟨g, k * 5 + 1, none⟩ (.string ⟨#[]⟩)).setCell ⟨g, k * 5 + 2, none⟩ (.string ⟨#[]⟩)).setCell ⟨g, k * 5 + 3, none⟩ (.string ⟨#[]⟩)).setCell ⟨g, k * 5 + 4, none⟩ (.bool false)) = setD5 wr g (k * 5) (markDef i k) := by rw [← HY.out]; rfl
          rw [e6]
          obtain ⟨X, hX⟩ : ∃ X, setD5 wr g (k * 5) (markDef i k) = X := ⟨_, rfl⟩
          rw [hX] at hs5 hb6 hm6 hz6 ⊢
          have HZ := Lib.hid (And.intro (hs5.below (Below.refl _ X).drew) (And.intro hb6.drew (And.intro hz6 (own_below hm6 (Below.refl _ X).drew))))
          clear hs5 hb6 hm6 hz6 e6 hX hkl hBg c10 d1 m0 m1 m2 m3 m4 o0 o1 o2 o3 o4 f0 f1 f2 f3 f4
          go_wp2_with fail
          go_roundw
          case rel => exact ⟨k + 1, by omega, by go_num, HZ.out.1, HZ.out.2.1, HZ.out.2.2.1, HZ.out.2.2.2⟩
          case measure => simp [intOf]; omega
        · obtain rfl : k = n := by omega
          have hdone : (markTo M i).set i (.slice vao k vc, half i l k) = markTo M (i + 1) := by
            rw [← markTo_succ M i _ HX.out.1]
            simp only
            rw [HX.out.2.2, ← HX.out.2.2, half_all]
          rw [hdone] at hL5
          have HL5 := Lib.hid hL5
          clear hdone hL5 hm5
          go_wp2_with fail
          go_roundw
          case rel => exact ⟨i + 1, by omega, by go_num, HL5.out, hb5, hBs5⟩
          case measure => simp [intOf]; omega
    · obtain rfl : i = N := by omega
      have HL := Lib.hid hL
      clear hL hod hbk
      go_wp2_with fail
      go_end0
      exact ⟨rfl, HL.out, hb⟩

end Go.Proofs.YtnlmfoccdmkncaaGreatDoor

/-
  A region that draws its order: a load may be taken first where what it reads is kept until the one operation that writes it. What is asked behind an operation hangs on which one it is.
-/
namespace Go.Proofs.YtnlmfoccdmkncaaGreatDoor
open Go
set_option linter.unusedVariables false
set_option linter.unusedSimpArgs false

section
variable {P : Program} {ops : Array Oper} {Q : Exit → Act → World → Prop} {md : Region.Mode} {S : Nat → World → Prop}

/-- Whatever order is picked from here on; behind operation i, 'S i' holds. -/
def wpAnyI (P : Program) (md : Region.Mode) (ops : Array Oper) (Q : Exit → Act → World → Prop) (S : Nat → World → Prop) : Nat → Array Bool → Act → World → Prop
  | 0, listed, a, w => Region.ready md ops listed = [] ∧ Q .normal a w
  | fuel + 1, listed, a, w =>
    (Region.ready md ops listed = [] → Q .normal a w) ∧
    ∀ i ∈ Region.ready md ops listed, wpOp P ops Q i (fun a' w' => S i w' ∧ wpAnyI P md ops Q S fuel (listed.setIfInBounds i true) a' w') a w

theorem wpAny_of_I : ∀ (fuel : Nat) (listed : Array Bool) (a : Act) (w : World), wpAnyI P md ops Q S fuel listed a w → wpAny P md ops Q fuel listed a w
  | 0, _, _, _, h => h
  | fuel + 1, _, _, _, h => ⟨h.1, fun i hi => wpOp_mono (fun a' w' h' => wpAny_of_I fuel _ a' w' h'.2) (h.2 i hi)⟩

/-- What has come up, with all that it waited for. -/
def ShutUp (md : Region.Mode) (ops : Array Oper) (listed : Array Bool) : Prop := listed.size = ops.size ∧ ∀ j oj, ops[j]? = some oj → listed.getD j false = true → ∀ e ∈ oj.after, Region.binds md e = true → listed.getD e.on false = true
theorem getD_bool {l : Array Bool} {i : Nat} (h : l.getD i true = false) : l.getD i false = false := by
  rcases Nat.lt_or_ge i l.size with h' | h'
  · simp [h'] at h ⊢; exact h
  · simp [Array.getElem?_eq_none h'] at h
theorem ShutUp.set {listed : Array Bool} (h : ShutUp md ops listed) {i : Nat} (hi : i ∈ Region.ready md ops listed) : ShutUp md ops (listed.setIfInBounds i true) := by
  obtain ⟨_, oi, hoi, hall⟩ := mem_ready.1 hi
  refine ⟨by simp [h.1], fun j oj hj hl e he hb => ?_⟩
  by_cases hij : i = j
  · subst hij
    obtain rfl : oj = oi := Option.some.inj (hj.symm.trans hoi)
    exact getD_set_true (hall e he hb)
  · rw [getD_set_ne false hij] at hl
    exact getD_set_true (h.2 j oj hj hl e he hb)

theorem getD_more {l : Array Bool} {i k : Nat} (h : l.getD k true = true) : (l.setIfInBounds i true).getD k true = true := by
  by_cases hik : i = k
  · subst hik
    rcases Nat.lt_or_ge i l.size with h' | h'
    · simp [h']
    · simp [Array.getElem?_eq_none h']
  · rw [getD_set_ne true hik]; exact h
/-- t waits for i, directly or through others. -/
def leadsB (md : Region.Mode) (ops : Array Oper) : Nat → Nat → Nat → Bool
  | 0, _, _ => false
  | n + 1, t, i => match ops[t]? with
    | some o => o.after.any fun e => Region.binds md e && (e.on == i || leadsB md ops n e.on i)
    | none => false
theorem listed_leads {l : Array Bool} {i : Nat} (hsh : ShutUp md ops l) : ∀ n t, leadsB md ops n t i = true → l.getD t false = true → l.getD i false = true
  | 0, _, h, _ => by simp [leadsB] at h
  | n + 1, t, h, ht => by
    unfold leadsB at h
    cases ho : ops[t]? with
    | none => rw [ho] at h; cases h
    | some o =>
      rw [ho] at h
      obtain ⟨e, he, hb⟩ := Array.any_eq_true'.1 h
      simp only [Bool.and_eq_true, Bool.or_eq_true, beq_iff_eq] at hb
      have h1 := hsh.2 t o ho ht e he hb.1
      rcases hb.2 with h2 | h2
      · rw [← h2]; exact h1
      · exact listed_leads hsh n e.on h2 h1
theorem ready_leads {l : Array Bool} {i t n : Nat} (hsh : ShutUp md ops l) (h : leadsB md ops n t i = true) (hr : t ∈ Region.ready md ops l) : l.getD i false = true := by
  obtain ⟨_, o, ho, hall⟩ := mem_ready.1 hr
  cases n with
  | zero => simp [leadsB] at h
  | succ n =>
    unfold leadsB at h
    rw [ho] at h
    obtain ⟨e, he, hb⟩ := Array.any_eq_true'.1 h
    simp only [Bool.and_eq_true, Bool.or_eq_true, beq_iff_eq] at hb
    have h1 := hall e he hb.1
    rcases hb.2 with h2 | h2
    · rw [← h2]; exact h1
    · exact listed_leads hsh n e.on h2 h1
/-- Who may come up ahead of i: those of G alone. -/
def aheadB (md : Region.Mode) (ops : Array Oper) (listed : Array Bool) (i : Nat) (G : List Nat) : Bool :=
  (List.range ops.size).all fun j => listed.getD j true || j == i || leadsB md ops ops.size j i || G.contains j

/-- An operation that may come up now may be taken first, if it yields its value in every world that meets S0, and S0 holds behind every operation that may come up ahead of it. -/
theorem wpAnyI_first {S0 : World → Prop} {i : Nat} {oi : Oper} {v : Value} (hi : ops[i]? = some oi) (hsel : ∀ (j : Nat) (o : Oper) cs b, ops[j]? = some o → o.op ≠ .select cs b)
    (hQ : ∀ c a w, Q (.panic c) (a.put oi.dst v) w → Q (.panic c) a w) (hSi : ∀ w, S0 w → S i w)
    (l0 : Array Bool) (hS0 : ∀ (j : Nat) (l : Array Bool), ShutUp md ops l → (∀ k, l0.getD k true = true → l.getD k true = true) → l.getD i true = false → j ∈ Region.ready md ops l → j ≠ i → ∀ w, S j w → S0 w) :
    ∀ (fuel : Nat) (listed : Array Bool) (a : Act) (w : World), ShutUp md ops listed → (∀ k, l0.getD k true = true → listed.getD k true = true) →
      (∀ j oj, ops[j]? = some oj → j ≠ i → listed.getD j true = false → (∀ e ∈ oj.after, Region.binds md e = true → e.on ≠ i) → oi.apart ops oj = true) →
      i ∈ Region.ready md ops listed → YieldsIf P ops S0 oi v a → S0 w →
      wpAnyI P md ops Q S fuel (listed.setIfInBounds i true) (a.put oi.dst v) w → wpAnyI P md ops Q S (fuel + 1) listed a w := by
  intro fuel
  induction fuel with
  | zero =>
    intro listed a w _ _ _ hr hy hS H
    refine ⟨fun h => (by rw [h] at hr; cases hr), fun j hj => ?_⟩
    by_cases hji : j = i
    · subst hji; exact hy.wpOp hi hS ⟨hSi w hS, H⟩
    · have := ready_mono hj hji
      rw [H.1] at this
      cases this
  | succ fuel ih =>
    intro listed a w hsh hext hfree hr hy hS H
    refine ⟨fun h => (by rw [h] at hr; cases hr), fun j hj => ?_⟩
    by_cases hji : j = i
    · subst hji; exact hy.wpOp hi hS ⟨hSi w hS, H⟩
    · have h1 := H.2 j (ready_mono hj hji)
      obtain ⟨hjun, oj, hoj, hall⟩ := mem_ready.1 hj
      have hnot : ∀ e ∈ oj.after, Region.binds md e = true → e.on ≠ i := fun e he hb heq => by
        have h1 := hall e he hb
        have h0 := (mem_ready.1 hr).1
        rw [heq] at h1
        rcases Nat.lt_or_ge i listed.size with h' | h'
        · simp [h'] at h0 h1; rw [h0] at h1; cases h1
        · simp [Array.getElem?_eq_none h'] at h1
      have h2 := wpOp_putIf hoj (hfree j oj hoj hji hjun hnot) (fun cs b => hsel i oi cs b hi) (fun cs b => hsel j oj cs b hoj) hQ hy h1
      have hfree' : ∀ k ok, ops[k]? = some ok → k ≠ i → (listed.setIfInBounds j true).getD k true = false →
          (∀ e ∈ ok.after, Region.binds md e = true → e.on ≠ i) → oi.apart ops ok = true := fun k ok hk hki hun hno => by
        refine hfree k ok hk hki ?_ hno
        by_cases hjk : j = k
        · subst hjk; exact hjun
        · rw [getD_set_ne true hjk] at hun; exact hun
      refine wpOp_mono (fun a' w' h3 => ⟨h3.2.1, ih (listed.setIfInBounds j true) a' w' (hsh.set hj) (fun k hk => getD_more (hext k hk)) hfree' (ready_mono hr (Ne.symm hji)) h3.1 (hS0 j listed hsh hext (mem_ready.1 hr).1 hj hji w' h3.2.1) ?_⟩) h2
      rw [Array.setIfInBounds_comm _ _ hji]
      exact h3.2.2

/-- For the kernel: 'ShutUp'. -/
def shutUpB (md : Region.Mode) (ops : Array Oper) (listed : Array Bool) : Bool :=
  listed.size == ops.size && (List.range ops.size).all fun j => match ops[j]? with
    | some oj => !(listed.getD j false) || oj.after.all fun e => !(Region.binds md e) || listed.getD e.on false
    | none => true
theorem ShutUp.of {listed : Array Bool} (h : shutUpB md ops listed = true) : ShutUp md ops listed := by
  unfold shutUpB at h
  simp only [Bool.and_eq_true, beq_iff_eq] at h
  refine ⟨h.1, fun j oj hj hl e he hb => ?_⟩
  have h1 := List.all_eq_true.1 h.2 j (List.mem_range.2 (Array.getElem?_eq_some_iff.1 hj).1)
  simp only [hj, hl, Bool.not_true, Bool.false_or] at h1
  have h2 := Array.all_eq_true'.1 h1 e he
  simpa [hb] using h2

/-- A plain take: what yields in whatever world, or where S always gives it. -/
theorem wpAnyI_take {S0 : World → Prop} {i : Nat} {oi : Oper} {v : Value} {fuel : Nat} {listed : Array Bool} {a : Act} {w : World} (hi : ops[i]? = some oi)
    (hs : Region.noSelect ops = true) (hf : Region.free md ops listed i = true) (hr : (Region.ready md ops listed).contains i = true) (hsh : shutUpB md ops listed = true) (G : List Nat) (hG : aheadB md ops listed i G = true)
    (hQ : ∀ c a w, Q (.panic c) (a.put oi.dst v) w → Q (.panic c) a w) (hSi : ∀ w, S0 w → S i w)
    (hS0 : ∀ j ∈ G, ∀ w, S j w → S0 w)
    (d : Option Tmp) (hd : oi.dst = d) (hy : YieldsIf P ops S0 oi v a) (hS : S0 w)
    (h : wpAnyI P md ops Q S fuel (listed.setIfInBounds i true) (a.put d v) w) : wpAnyI P md ops Q S (fuel + 1) listed a w := by
  subst hd
  exact wpAnyI_first hi (Region.noSelect_spec hs) hQ hSi listed (fun j l hl hext hun hj hji w' h1 => by
    have hjl := mem_ready.1 hj
    obtain ⟨_, oj, hoj, _⟩ := hjl
    have h2 := List.all_eq_true.1 hG j (List.mem_range.2 (Array.getElem?_eq_some_iff.1 hoj).1)
    simp only [Bool.or_eq_true, beq_iff_eq, List.contains_iff_mem] at h2
    rcases h2 with ((h2 | h2) | h2) | h2
    · have := hext j h2
      rw [(mem_ready.1 hj).1] at this
      cases this
    · exact absurd h2 hji
    · have := ready_leads hl h2 hj
      rw [getD_bool hun] at this
      cases this
    · exact hS0 j h2 w' h1) fuel listed a w (ShutUp.of hsh) (fun _ h => h) (Region.free_spec hi hf) (by simpa using hr) hy hS h
/-- One alone may come up. -/
theorem wpAnyI_one {i : Nat} {o : Oper} {fuel : Nat} {listed : Array Bool} {a : Act} {w : World} (hr : Region.ready md ops listed = [i]) (ho : ops[i]? = some o)
    (h : ∀ K' : Act → World → Prop, (∀ a w, S i w ∧ wpAnyI P md ops Q S fuel (listed.setIfInBounds i true) a w → K' a w) → if Region.wanted o (yielded ops a.tmps) = true then Oper.wp P o a w K' Q else K' (a.put o.dst undef) w) :
    wpAnyI P md ops Q S (fuel + 1) listed a w :=
  ⟨fun h0 => (by rw [hr] at h0; cases h0), by rw [hr]; intro j hj; rw [List.mem_singleton.1 hj]; exact wpOp_step ho h⟩
theorem wpAnyI_done {listed : Array Bool} {a : Act} {w : World} (hr : Region.ready md ops listed = []) (h : Q .normal a w) : ∀ fuel, wpAnyI P md ops Q S fuel listed a w
  | 0 => ⟨hr, h⟩
  | _ + 1 => ⟨fun _ => h, by rw [hr]; simp⟩
theorem wp_region_I {id : Nat} {a : Act} {w : World} (hm : P.follows .mixedOrders = true)
    (h : wpAnyI P .any ops Q S ops.size (Array.replicate ops.size false) a w.drew) : (Code.region id ops true).wp P Q a w :=
  wp_region_any hm (wpAny_of_I _ _ _ _ h)

end
end Go.Proofs.YtnlmfoccdmkncaaGreatDoor

/-
  bowdlerbook.markedDefs: each list has its own marks.
-/
namespace Go.Proofs.YtnlmfoccdmkncaaGreatDoor
open Go.RowKit
set_option maxRecDepth 100000
set_option linter.unusedVariables false
set_option linter.unusedSimpArgs false

/-- Lists, the i-th with the marks of i. -/
def ReadsMarks (w : World) (U : List (Value × Nat)) : Prop := ∀ i x, U[i]? = some x → ReadsDefs w x.1 (marks i 0 x.2) ∧ x.2 ≤ 100000
theorem ReadsMarks.below {w w' : World} {U : List (Value × Nat)} (h : ReadsMarks w U) (hb : Below w.heap.size w w') : ReadsMarks w' U := fun i x hx => ⟨(h i x hx).1.below hb, (h i x hx).2⟩

set_option maxHeartbeats 4000000 in
theorem markedDefs_any (U : List (Value × Nat)) (v : Value) (c : Nat) (ao : Option Addr) (w : World) (hr : RowR w 1 ao U.length (U.map (·.1))) (hU : ReadsMarks w U) (hl : U.length ≤ 1000) :
    Calls Tryz.prog 63 #[.slice ao U.length c] w fun e w' => e = .returned (.bool true) ∧ Below w.heap.size w w' := by
  obtain ⟨N, hN⟩ : ∃ N, U.length = N := ⟨_, rfl⟩
  rw [hN] at hr hl ⊢
  have HX := Lib.hid (And.intro hr hU)
  have HN := Lib.hid hN
  clear hr hU hN
  go_enter Tryz.func63, Tryz.ntmps63
  go_wp2_with fail
  go_loopw [3] (fun u3 wr => ∃ k : Nat, k ≤ N ∧ u3 = .int .i64 k ∧ Below w.heap.size w wr) (fun u3 _ => N - (intOf u3).toNat)
  case atStart => exact ⟨0, Nat.zero_le _, rfl, Below.refl _ _⟩
  case round =>
    obtain ⟨k, hk, rfl, hB⟩ := hrel
    by_cases hlt : k < N
    · have hltI : (k : Int) < (N : Int) := by omega
      obtain ⟨x, hx⟩ : ∃ x, U[k]? = some x := ⟨U[k]'(by have := HN.out; omega), List.getElem?_eq_getElem _⟩
      obtain ⟨ad, rfl⟩ : ∃ a, ao = some a := by
        cases ao with
        | none => have := HX.out.1.non rfl; omega
        | some a => exact ⟨a, rfl⟩
      obtain ⟨g, o, sp⟩ := ad
      obtain rfl : sp = none := (HX.out.1.at' _ rfl).1
      have d1 := ((HX.out.1.below hB).at' _ rfl).2 k x.1 (by rw [List.getElem?_map, hx]; rfl)
      rw [add_at _ rfl] at d1
      simp only at d1
      obtain ⟨hrd, hn⟩ := HX.out.2 k x hx
      obtain ⟨v1, n⟩ := x
      simp only at d1 hrd hn
      obtain ⟨ao1, c1, rfl, hrr, hno, hcc⟩ := hrd
      rw [marks_len] at hrr hcc
      have HR := Lib.hid (And.intro hrr (And.intro hno hcc))
      have d1' : wr.drew.cell? ⟨g, o + k, none⟩ = some (.slice ao1 n c1) := by rw [← marks_len k 0 n]; exact d1
      have hbd : Below wr.heap.size wr wr.drew := (Below.refl _ wr).drew
      have HB := Lib.hid (hB.trans (hbd.mono hB.size))
      have HM := Lib.hid (show ∀ W : World, Calls Tryz.prog 96 #[.int .i64 (k : Int), .int .i64 0, .int .i64 (n : Int)] W fun e w' => ∃ v, e = .returned v ∧ w'.ownsRow W.heap.size 26 5 v n (defCells (marks k 0 n)) ∧ Below W.heap.size W w' from fun W => markDefs_any k 0 n (by omega) (by omega) W)
      clear hrr hno hcc d1 hx hB hbd
      go_wp2_with fail
      refine wp_region_I (S := fun j W' => ([3, 8, 9, 10].contains j = true) → W'.cell? ⟨g, o + k, none⟩ = some (.slice ao1 n c1)) (by kernel_rfl) ?_
      refine wpAnyI_take (S0 := fun _ => True) (i := 0) (v := ?_) rfl (by kernel_rfl) (by kernel_rfl) (by kernel_rfl) (by kernel_rfl) (List.range 13) (by kernel_rfl) (fun _ _ _ h => h) (fun _ _ h => absurd h (by decide)) (fun _ _ _ _ => trivial) (some 10) rfl (Or.inl ⟨by rfl, ?_⟩) trivial ?_
      rotate_left
      · intro w' _; go_simp <;> with_reducible rfl
      try simp only [Act.put, List.setIfInBounds_toArray, List.set_cons_zero, List.set_cons_succ]
      refine wpAnyI_take (S0 := fun _ => True) (i := 1) (v := ?_) rfl (by kernel_rfl) (by kernel_rfl) (by kernel_rfl) (by kernel_rfl) (List.range 13) (by kernel_rfl) (fun _ _ _ h => h) (fun _ _ h => absurd h (by decide)) (fun _ _ _ _ => trivial) (some 11) rfl (Or.inl ⟨by rfl, ?_⟩) trivial ?_
      rotate_left
      · intro w' _; go_simp <;> with_reducible rfl
      try simp only [Act.put, List.setIfInBounds_toArray, List.set_cons_zero, List.set_cons_succ]
      refine wpAnyI_take (S0 := fun _ => True) (i := 4) (v := ?_) rfl (by kernel_rfl) (by kernel_rfl) (by kernel_rfl) (by kernel_rfl) (List.range 13) (by kernel_rfl) (fun _ _ _ h => h) (fun _ _ h => absurd h (by decide)) (fun _ _ _ _ => trivial) (some 14) rfl (Or.inl ⟨by rfl, ?_⟩) trivial ?_
      rotate_left
      · intro w' _; go_simp <;> with_reducible rfl
      try simp only [Act.put, List.setIfInBounds_toArray, List.set_cons_zero, List.set_cons_succ]
      refine wpAnyI_take (S0 := fun _ => True) (i := 5) (v := ?_) rfl (by kernel_rfl) (by kernel_rfl) (by kernel_rfl) (by kernel_rfl) (List.range 13) (by kernel_rfl) (fun _ _ _ h => h) (fun _ _ h => absurd h (by decide)) (fun _ _ _ _ => trivial) (some 15) rfl (Or.inl ⟨by rfl, ?_⟩) trivial ?_
      rotate_left
      · intro w' _; go_simp <;> with_reducible rfl
      try simp only [Act.put, List.setIfInBounds_toArray, List.set_cons_zero, List.set_cons_succ]
      refine wpAnyI_take (S0 := fun _ => True) (i := 6) (v := ?_) rfl (by kernel_rfl) (by kernel_rfl) (by kernel_rfl) (by kernel_rfl) (List.range 13) (by kernel_rfl) (fun _ _ _ h => h) (fun _ _ h => absurd h (by decide)) (fun _ _ _ _ => trivial) (some 16) rfl (Or.inl ⟨by rfl, ?_⟩) trivial ?_
      rotate_left
      · intro w' _; go_simp <;> with_reducible rfl
      try simp only [Act.put, List.setIfInBounds_toArray, List.set_cons_zero, List.set_cons_succ]
      refine wpAnyI_take (S0 := fun _ => True) (i := 2) (v := ?_) rfl (by kernel_rfl) (by kernel_rfl) (by kernel_rfl) (by kernel_rfl) (List.range 13) (by kernel_rfl) (fun _ _ _ h => h) (fun _ _ h => absurd h (by decide)) (fun _ _ _ _ => trivial) (some 12) rfl (Or.inl ⟨by rfl, ?_⟩) trivial ?_
      rotate_left
      · intro w' _; go_simp <;> with_reducible rfl
      try simp only [Act.put, List.setIfInBounds_toArray, List.set_cons_zero, List.set_cons_succ]
      refine wpAnyI_take (S0 := fun _ => True) (i := 7) (v := ?_) rfl (by kernel_rfl) (by kernel_rfl) (by kernel_rfl) (by kernel_rfl) (List.range 13) (by kernel_rfl) (fun _ _ _ h => h) (fun _ _ h => absurd h (by decide)) (fun _ _ _ _ => trivial) (some 17) rfl (Or.inl ⟨by rfl, ?_⟩) trivial ?_
      rotate_left
      · intro w' _; go_simp <;> with_reducible rfl
      try simp only [Act.put, List.setIfInBounds_toArray, List.set_cons_zero, List.set_cons_succ]
      refine wpAnyI_take (S0 := fun W' => W'.cell? ⟨g, o + k, none⟩ = some (.slice ao1 n c1)) (i := 3) (v := ?_) rfl (by kernel_rfl) (by kernel_rfl) (by kernel_rfl) (by kernel_rfl) [8, 9, 10] (by kernel_rfl) (fun _ _ _ h => h) (fun _ h _ => h) (fun j hj _ h => h (by simp at hj ⊢ <;> omega)) (some 13) rfl (Or.inl ⟨by rfl, ?_⟩) d1' ?_
      rotate_left
      · rintro w' s0; go_simp <;> with_reducible rfl
      try simp only [Act.put, List.setIfInBounds_toArray, List.set_cons_zero, List.set_cons_succ]
      refine wpAnyI_take (S0 := fun W' => W'.cell? ⟨g, o + k, none⟩ = some (.slice ao1 n c1)) (i := 8) (v := ?_) rfl (by kernel_rfl) (by kernel_rfl) (by kernel_rfl) (by kernel_rfl) [10] (by kernel_rfl) (fun _ _ _ h => h) (fun _ h _ => h) (fun j hj _ h => h (by simp at hj ⊢ <;> omega)) (some 18) rfl (Or.inl ⟨by rfl, ?_⟩) d1' ?_
      rotate_left
      · rintro w' s0; go_simp <;> with_reducible rfl
      try simp only [Act.put, List.setIfInBounds_toArray, List.set_cons_zero, List.set_cons_succ]
      refine wpAnyI_take (S0 := fun W' => W'.cell? ⟨g, o + k, none⟩ = some (.slice ao1 n c1)) (i := 9) (v := ?_) rfl (by kernel_rfl) (by kernel_rfl) (by kernel_rfl) (by kernel_rfl) [10] (by kernel_rfl) (fun _ _ _ h => h) (fun _ h _ => h) (fun j hj _ h => h (by simp at hj ⊢ <;> omega)) (some 19) rfl (Or.inl ⟨by rfl, ?_⟩) d1' ?_
      rotate_left
      · rintro w' s0; go_simp <;> with_reducible rfl
      try simp only [Act.put, List.setIfInBounds_toArray, List.set_cons_zero, List.set_cons_succ]
      refine wpAnyI_one (i := 10) (by kernel_rfl) rfl (fun K' hK => ?_)
      have HKK := Lib.hid hK
      clear hK
      go_simp
      refine (HM.out _).mono ?_
      rintro e w3 ⟨v3, rfl, hown3, b3⟩
      have hz3 : wr.drew.heap.size = wr.heap.size := rfl
      rw [hz3] at hown3 b3
      have hb3 := (HB.out).trans (b3.mono HB.out.size)
      have hr1 : ReadsDefs w3 (.slice ao1 n c1) (marks k 0 n) := ⟨ao1, c1, by rw [marks_len], by rw [marks_len]; exact HR.out.1.below hb3, HR.out.2.1, by rw [marks_len]; exact HR.out.2.2⟩
      have hr3 : ReadsDefs w3 v3 (marks k 0 n) := reads_own (marks_len k 0 n).symm hown3
      have HS := Lib.hid (sameDefs_yes (marks k 0 n) (.slice ao1 n c1) v3 w3 hr1 hr3 (by rw [marks_len]; omega))
      have d3 : w3.cell? ⟨g, o + k, none⟩ = some (.slice ao1 n c1) := by
        have hlt3 := World.block_lt_of_cell? _ _ d1'
        exact (b3.cell (p := ⟨g, o + k, none⟩) hlt3).trans d1'
      have HB3 := Lib.hid hb3
      clear hown3 b3 hb3 hr1 hr3 HM HR HB
      go_wp2_with fail
      refine HKK.out _ _ ⟨fun _ => d3, ?_⟩
      clear HKK K'
      try simp only [Act.put, List.setIfInBounds_toArray, List.set_cons_zero, List.set_cons_succ, List.getElem_toArray, List.getElem_cons_zero, List.getElem_cons_succ]
      refine wpAnyI_one (i := 11) (by kernel_rfl) rfl (fun K' hK => ?_)
      have HKK := Lib.hid hK
      clear hK
      go_simp
      refine HS.out.mono ?_
      rintro e w4 ⟨rfl, m4, rfl⟩
      go_wp2_with fail
      refine HKK.out _ _ ⟨fun h => absurd h (by decide), ?_⟩
      clear HKK K'
      try simp only [Act.put, List.setIfInBounds_toArray, List.set_cons_zero, List.set_cons_succ, List.getElem_toArray, List.getElem_cons_zero, List.getElem_cons_succ]
      refine wpAnyI_one (i := 12) (by kernel_rfl) rfl (fun K' hK => ?_)
      have HKK := Lib.hid hK
      clear hK
      go_simp
      refine HKK.out _ _ ⟨fun h => absurd h (by decide), ?_⟩
      clear HKK K'
      try simp only [Act.put, List.setIfInBounds_toArray, List.set_cons_zero, List.set_cons_succ, List.getElem_toArray, List.getElem_cons_zero, List.getElem_cons_succ]
      refine wpAnyI_done (by kernel_rfl) ?_ _
      go_wp2_with fail
      go_roundw
      case rel => exact ⟨k + 1, by omega, by go_num, below_drawn HB3.out _⟩
      case measure => simp [intOf]; omega
    · obtain rfl : k = N := by omega
      go_wp2_with fail
      go_ret
      exact ⟨rfl, hB⟩

end Go.Proofs.YtnlmfoccdmkncaaGreatDoor

/-
  bowdlerbook.Book.growDefs: each list grows, one definition at a time and then by many; none writes into another one.
-/
namespace Go.Proofs.YtnlmfoccdmkncaaGreatDoor
open Go.RowKit
set_option maxRecDepth 100000
set_option linter.unusedVariables false
set_option linter.unusedSimpArgs false

theorem reads_own_onto {w w' : World} {B T : Nat} {v : Value} {n k : Nat} {ds : List DefL} (hn : n = ds.length) (h : w.ownsRow B T 5 v n (defCells ds)) (ho : Onto w w' v.ownBlock k) (hk : n * 5 ≤ k) : ReadsDefs w' v ds := by
  subst hn
  have hl := h.1
  rcases h.2 with ⟨rfl, h0⟩ | ⟨g, cap, cur, rfl, hb, hgg, hle, _⟩
  · have : ds = [] := List.eq_nil_of_length_eq_zero h0
    subst this
    exact ⟨none, 0, rfl, ⟨rfl, fun _ => rfl, (fun ad h => by cases h)⟩, fun _ => rfl, Nat.le_refl _⟩
  · obtain ⟨_, hr, _⟩ := own_rowR h
    refine ⟨some ⟨g, 0, none⟩, cap, rfl, hr.onto ho (fun ad had _ => ?_), (fun h => by cases h), hle⟩
    obtain rfl := Option.some.inj had
    rw [hl]; simpa using hk
theorem reads_onto_ne {w w' : World} {row : Option Nat} {k : Nat} {v : Value} {ds : List DefL} (h : ReadsDefs w v ds) (ho : Onto w w' row k) (hne : Distinct v.ownBlock row) : ReadsDefs w' v ds := by
  obtain ⟨ao, c, rfl, h2, h3, h4⟩ := h
  refine ⟨ao, c, rfl, h2.onto ho (fun ad had hr => ?_), h3, h4⟩
  subst had
  rcases hne with h0 | h0
  · cases h0
  · exact absurd hr.symm h0

/-- What growing leaves: the lists that have grown, and those of the book, each with its marks. -/
structure GrownB (w : World) (b N : Nat) (gv : Value) : Prop where
  out : ∃ ao c U, gv = .slice ao N c ∧ U.length = N ∧ RowR w 1 ao N (U.map (·.1)) ∧ ReadsMarks w U
  book : ∃ dao dc wv V, BookAt w b (.slice dao N dc) wv ∧ V.length = N ∧ RowR w 1 dao N (V.map (·.1)) ∧ ReadsMarks w V
theorem GrownB.below {w w' : World} {b N : Nat} {gv : Value} (h : GrownB w b N gv) (hb : Below w.heap.size w w') : GrownB w' b N gv := by
  obtain ⟨⟨ao, c, U, h1, h2, h3, h4⟩, ⟨dao, dc, wv, V, k1, k2, k3, k4⟩⟩ := h
  exact ⟨⟨ao, c, U, h1, h2, h3.below hb, h4.below hb⟩, ⟨dao, dc, wv, V, k1.below hb, k2, k3.below hb, k4.below hb⟩⟩
def GrowPost (w : World) (B b N : Nat) (e : Ending) (w' : World) : Prop := ∃ gv, e = .returned gv ∧ GrownB w' b N gv ∧ Below B w w'

/-- While the lists grow: those from i on are still the book's own. -/
structure GrowSt (w0 w : World) (B b : Nat) (M : List ListV) (i : Nat) (u : Value) (U : List (Value × Nat)) : Prop where
  len : U.length = i
  out : w.ownsRow w0.heap.size 40 1 u i (U.map (·.1))
  got : ∀ (j : Nat) (x : Value × Nat), U[j]? = some x → w.ownsRow B 26 5 x.1 x.2 (defCells (marks j 0 x.2)) ∧ x.2 ≤ 100000 ∧ ∀ (k : Nat) (y : ListV), i ≤ k → M[k]? = some y → Distinct x.1.ownBlock y.1.ownBlock
  own : ∀ (k : Nat) (y : ListV), i ≤ k → M[k]? = some y → w.ownsRow B 26 5 y.1 y.2.length (defCells y.2)
  read : ∀ (k : Nat) (y : ListV), M[k]? = some y → ReadsDefs w y.1 y.2
  book : ∃ dv wv, BookAt w b dv wv ∧ w.ownsRow B 40 1 dv M.length (M.map (·.1)) ∧ ∀ q, dv.ownBlock = some q → q < w0.heap.size
  bel : Below B w0 w
  size : w0.heap.size ≤ w.heap.size

theorem ne_of_lt {a b : Option Nat} {n : Nat} (h1 : ∀ q, a = some q → q < n) (h2 : ∀ q, b = some q → n ≤ q) : Distinct a b := by
  cases a with
  | none => exact .inl rfl
  | some q =>
    refine .inr (fun e => ?_)
    have := h1 q rfl
    have := h2 q e.symm
    omega

/-- The list of place i has grown in the world w2: the state but for the row of the lists that have grown. -/
theorem GrowSt.step {w0 w w2 w3 : World} {B b i : Nat} {M : List ListV} {u u' : Value} {U : List (Value × Nat)} {x : ListV} {v' : Value} {n : Nat} (h : GrowSt w0 w B b M i u U) (hx : M[i]? = some x) (hap : ∀ (i j : Nat) (x y : ListV), i ≠ j → M[i]? = some x → M[j]? = some y → Distinct x.1.ownBlock y.1.ownBlock)
    (hlt : ∀ (k : Nat) (y : ListV) (q : Nat), M[k]? = some y → y.1.ownBlock = some q → B ≤ q ∧ q < w0.heap.size) (hB : B ≤ w0.heap.size)
    (ho : Onto w w2 x.1.ownBlock (x.2.length * 5)) (hv : w2.ownsRow B 26 5 v' n (defCells (marks i 0 n))) (hn : n ≤ 100000) (hvb : v'.ownBlock = x.1.ownBlock ∨ ∀ q, v'.ownBlock = some q → w.heap.size ≤ q)
    (hg : w2.grownBy w3 u.ownBlock) (hu : w3.ownsRow w0.heap.size 40 1 u' (i + 1) (U.map (·.1) ++ [v'])) : GrowSt w0 w3 B b M (i + 1) u' (U ++ [(v', n)]) := by
  have hsz2 : w.heap.size ≤ w2.heap.size := ho.grown.size
  have hul : ∀ q, u.ownBlock = some q → w0.heap.size ≤ q ∧ q < w.heap.size := fun q hq => h.out.lt q hq
  have hru : Onto w2 w3 u.ownBlock 0 := ⟨hg, fun _ _ _ hj => absurd hj (Nat.not_lt_zero _)⟩
  have hout2 : w2.ownsRow w0.heap.size 40 1 u i (U.map (·.1)) := own_onto h.out ho (Distinct.symm (ne_of_lt (n := w0.heap.size) (fun q hq => (hlt i x q hx hq).2) (fun q hq => (hul q hq).1)))
  have hty : ∀ {z : Value} {m : Nat} {xs : List Value}, w2.ownsRow B 26 5 z m xs → w3.ownsRow B 26 5 z m xs := fun hz => hz.kept hg (own_apart hz hout2 (by decide))
  refine ⟨by rw [List.length_append, h.len]; rfl, by rw [List.map_append]; exact hu, fun j z hz => ?_, fun k y hk hy => ?_, fun k y hy => ?_, ?_, ?_, Nat.le_trans (Nat.le_trans h.size hsz2) hg.size⟩
  · rcases Nat.lt_or_ge j U.length with hj | hj
    · rw [List.getElem?_append_left hj] at hz
      obtain ⟨g1, g2, g3⟩ := h.got j z hz
      exact ⟨hty (own_onto g1 ho (g3 i x (Nat.le_refl _) hx)), g2, fun k y hk hy => g3 k y (by omega) hy⟩
    · rw [List.getElem?_append_right hj] at hz
      have hj0 : j - U.length = 0 := by
        have := (List.getElem?_eq_some_iff.1 hz).1
        simp at this; omega
      rw [hj0] at hz
      obtain rfl := Option.some.inj hz
      obtain rfl : j = i := by have := h.len; omega
      refine ⟨hty hv, hn, fun k y hk hy => ?_⟩
      rcases hvb with hvb | hvb
      · simp only; rw [hvb]; exact hap j k x y (by omega) hx hy
      · exact Distinct.symm (ne_of_lt (n := w.heap.size) (fun q hq => Nat.lt_of_lt_of_le (hlt k y q hy hq).2 h.size) hvb)
  · exact hty (own_onto (h.own k y (by omega) hy) ho (hap k i y x (by omega) hy hx))
  · have h2 : ReadsDefs w2 y.1 y.2 := by
      by_cases hki : k = i
      · subst hki
        obtain rfl : y = x := Option.some.inj (hy.symm.trans hx)
        exact reads_own_onto rfl (h.own k y (Nat.le_refl _) hy) ho (Nat.le_refl _)
      · exact reads_onto_ne (h.read k y hy) ho (hap k i y x hki hy hx)
    exact reads_onto_ne h2 hru (ne_of_lt (n := w0.heap.size) (fun q hq => (hlt k y q hy hq).2) (fun q hq => (hul q hq).1))
  · obtain ⟨dv, wv, k1, k2, k3⟩ := h.book
    have k1' : BookAt w2 b dv wv := by
      refine (ho.grown.block b k1.lt (fun e => ?_)).trans k1
      obtain ⟨cs, m, hc⟩ := own_row_block (h.own i x (Nat.le_refl _) hx) b e.symm
      unfold BookAt at k1
      rw [hc] at k1
      simp at k1
    have k2' := own_onto k2 ho (own_apart k2 (h.own i x (Nat.le_refl _) hx) (by decide))
    refine ⟨dv, wv, (hg.block b k1'.lt (own_far hout2 k1' (by decide))).trans k1', k2'.kept hg (ne_of_lt k3 (fun q hq => (hul q hq).1)), k3⟩
  · exact (ho.below h.bel (Nat.le_trans hB h.size) (fun p hp => (hlt i x p hx hp).1)).grown hg (Nat.le_trans hB (Nat.le_trans h.size hsz2)) (fun q hq => Nat.le_trans hB (hul q hq).1)

theorem GrowSt.done {w0 w : World} {B b : Nat} {M : List ListV} {u : Value} {U : List (Value × Nat)} (h : GrowSt w0 w B b M M.length u U) (hm : ∀ (k : Nat) (y : ListV), M[k]? = some y → y.2 = marks k 0 y.2.length ∧ y.2.length ≤ 100000) : GrownB w b M.length u := by
  obtain ⟨dv, wv, k1, k2, k3⟩ := h.book
  obtain ⟨dao, dc, rfl, kr, _⟩ := own_slice k2
  obtain ⟨ao, c, rfl, kr2, _⟩ := own_slice h.out
  refine ⟨⟨ao, c, U, rfl, h.len, kr2, fun j z hz => ⟨reads_own (marks_len ..).symm (h.got j z hz).1, (h.got j z hz).2.1⟩⟩, ⟨dao, dc, wv, M.map (fun y => (y.1, y.2.length)), k1, by simp, by simpa [Function.comp_def] using kr, fun j z hz => ?_⟩⟩
  rw [List.getElem?_map] at hz
  obtain ⟨y, hy, rfl⟩ := Option.map_eq_some_iff.1 hz
  have := hm j y hy
  exact ⟨by simp only; rw [← this.1]; exact h.read j y hy, this.2⟩

set_option maxHeartbeats 8000000 in
theorem growDefs_any (B b : Nat) (M : List ListV) (w : World) (hM : ListsB w B b M) (hm : ∀ (k : Nat) (y : ListV), M[k]? = some y → y.2 = marks k 0 y.2.length ∧ y.2.length ≤ 50000) (hN : M.length ≤ 1000) (hB : B ≤ w.heap.size) :
    Calls Tryz.prog 55 #[.pointer (some ⟨b, 0, none⟩)] w (GrowPost w B b M.length) := by
  obtain ⟨i0, hinf, hz0, hz1, hz2⟩ := info_parts infoDef
  obtain ⟨i1, hinf1, hy0, hy1, hy2⟩ := info_parts info_slice
  have hst : GrowSt w w B b M 0 (.slice none 0 0) [] := by
    obtain ⟨dv, wv, k1, k2⟩ := hM.book
    exact ⟨rfl, World.ownsRow_nil _ _ _ _, fun j x hx => by simp at hx, fun k y _ hy => (hM.rows k y hy).1, fun k y hy => reads_own rfl (hM.rows k y hy).1, ⟨dv, wv, k1, k2, fun q hq => (k2.lt q hq).2⟩, Below.refl _ _, Nat.le_refl _⟩
  have HS := Lib.hid hst
  have HC := Lib.hid (And.intro hm (And.intro hM.apart (show ∀ (k : Nat) (y : ListV) (q : Nat), M[k]? = some y → y.1.ownBlock = some q → B ≤ q ∧ q < w.heap.size from fun k y q hy hq => (hM.rows k y hy).1.lt q hq)))
  obtain ⟨N, hNe⟩ : ∃ N, M.length = N := ⟨_, rfl⟩
  rw [hNe] at hN ⊢
  have HN := Lib.hid hNe
  clear hM hst hm hNe
  go_enter Tryz.func55, Tryz.ntmps55
  go_wp2_with fail
  go_loopw [3, 4] (fun u3 u4 wr => ∃ (i : Nat) (U : List (Value × Nat)), i ≤ N ∧ u4 = .int .i64 i ∧ GrowSt w wr B b M i u3 U) (fun _ u4 _ => N - (intOf u4).toNat)
  case atStart => exact ⟨0, [], Nat.zero_le _, rfl, HS.out⟩
  case round =>
    obtain ⟨i, U, hi, rfl, hG⟩ := hrel
    obtain ⟨dv, wv, hbk, hod, hdq⟩ := hG.book
    rw [HN.out] at hod
    obtain ⟨dao, dc, rfl, _⟩ := own_slice hod
    have c10 : wr.cell? ⟨b, 10, none⟩ = some (.slice dao N dc) := hbk.cell 10 _ rfl
    by_cases hlt : i < N
    · have hltI : (i : Int) < (N : Int) := by omega
      obtain ⟨x, hx⟩ : ∃ x, M[i]? = some x := ⟨M[i]'(by have := HN.out; omega), List.getElem?_eq_getElem _⟩
      obtain ⟨g1, e1, h1, hc1⟩ := own_at1 hod (by omega)
      simp only [Value.slice.injEq] at h1
      obtain ⟨rfl, _, rfl⟩ := h1
      have d1 := hc1 i x.1 (by rw [List.getElem?_map, hx]; rfl)
      obtain ⟨v, l⟩ := x
      have hrow := hG.own i _ (Nat.le_refl _) hx
      obtain ⟨hl, hlen⟩ := HC.out.1 i _ hx
      simp only at d1 hrow hlen hl
      obtain ⟨n, hn⟩ : ∃ n, l.length = n := ⟨_, rfl⟩
      rw [hn] at hrow hlen hl
      subst hl
      obtain ⟨vao, vc, rfl, _⟩ := own_slice hrow
      have HG := Lib.hid (And.intro hG (And.intro hx hrow))
      clear hG hx hrow hbk hod hc1 hdq hn
      go_wp2_with fail
      obtain ⟨wo, rfl⟩ : ∃ wo : World, wo = wr := ⟨_, rfl⟩
      go_loopw [5, 6] (fun u5 u6 wr => ∃ m : Nat, m ≤ 12 ∧ u6 = .int .i64 m ∧ wr.ownsRow B 26 5 u5 (n + m) (defCells (marks i 0 (n + m))) ∧ Onto wo wr (Value.slice vao n vc).ownBlock (n * 5) ∧ (u5.ownBlock = (Value.slice vao n vc).ownBlock ∨ ∀ q, u5.ownBlock = some q → wo.heap.size ≤ q)) (fun _ u6 _ => 12 - (intOf u6).toNat)
      case atStart => exact ⟨0, by omega, rfl, HG.out.2.2, Onto.refl _ _ _, .inl rfl⟩
      case round =>
        obtain ⟨m, hm, rfl, hown, honto, hblk⟩ := hrel
        obtain ⟨lao, lc, rfl, _⟩ := own_slice hown
        obtain ⟨K, hK⟩ : ∃ K, n + m = K := ⟨_, rfl⟩
        rw [hK] at hown hblk ⊢
        have HK := Lib.hid hK
        have hKb : K ≤ 50012 := by omega
        have hBw : B ≤ wr.heap.size := Nat.le_trans (Nat.le_trans hB HG.out.1.size) honto.grown.size
        by_cases hm12 : m < 12
        · have hmI : (m : Int) < 12 := by omega
          have HMK := Lib.hid (show ∀ W : World, Calls Tryz.prog 96 #[.int .i64 (i : Int), .int .i64 (K : Int), .int .i64 1] W fun e w' => ∃ v, e = .returned v ∧ w'.ownsRow W.heap.size 26 5 v 1 (defCells (marks i K 1)) ∧ Below W.heap.size W w' from fun W => markDefs_any i K 1 (by omega) (by omega) W)
          have HO := Lib.hid (And.intro hown (And.intro honto hblk))
          clear hown honto hblk hK
          go_wp2_with fail
          refine (HMK.out _).mono ?_
          rintro e w3 ⟨mv, rfl, hmk, b3⟩
          obtain ⟨mao, mc, rfl, _⟩ := own_slice hmk
          have hmr := (own_rowR hmk).2.1
          obtain ⟨gm, om, rfl⟩ : ∃ g o, mao = some ⟨g, o, none⟩ := by
            cases mao with
            | none => have := hmr.non rfl; omega
            | some ad =>
              obtain ⟨g, o, sp⟩ := ad
              obtain rfl : sp = none := (hmr.at' _ rfl).1
              exact ⟨g, o, rfl⟩
          have hown3 := own_below HO.out.1 b3
          have hmr' := (hmr.at' _ rfl).2
          have hml := hmr.len
          have hB3 : B ≤ w3.heap.size := Nat.le_trans hBw b3.size
          have HM3 := Lib.hid (And.intro hown3 (And.intro hmr' (And.intro hml b3)))
          clear hmk hmr hmr' hml b3 hown3 HMK
          go_wp2_with (first
            | (at_builtin; refine wpList_append_keep _ rfl _ _ 40 rfl B 26 i0 (.agg #[.string ⟨#[]⟩, .string ⟨#[]⟩, .string ⟨#[]⟩, .string ⟨#[]⟩, .bool false]) 5 72 Tryz.underlying40 hinf hz0 hz1 hz2 rfl (by decide) (.slice lao K lc) K (defCells (marks i 0 K)) rfl HM3.out.1 ⟨gm, om, none⟩ 1 mc (defCells (marks i K 1)) rfl HM3.out.2.2.1 HM3.out.2.1 (defCells_one _) ?c3 ?c4 hB3 ?_))
          case c3 => unfold maxLen; omega
          case c4 => omega
          intro v' w4 hown4 honto4 hlie4
          rw [← defCells_append, marks_add0] at hown4
          have hstep : Onto wo w4 (Value.slice vao n vc).ownBlock (n * 5) ∧ (v'.ownBlock = (Value.slice vao n vc).ownBlock ∨ ∀ q, v'.ownBlock = some q → wo.heap.size ≤ q) := by
            obtain ⟨ho1, ho2, ho3⟩ := HO.out
            have b3 := HM3.out.2.2.2
            have hxl : ∀ p, (Value.slice vao n vc).ownBlock = some p → p < wo.heap.size := fun p hp => (HG.out.2.2.lt p hp).2
            have h1 : Onto wo w3 (Value.slice vao n vc).ownBlock (n * 5) := ho2.step (Onto.ofBelow (row := none) (k := 0) b3 (fun p hp => by cases hp)) (.inr (fun q hq => by cases hq)) hxl
            refine ⟨h1.step honto4 ?_ hxl, ?_⟩
            · rcases ho3 with h | h
              · exact .inl ⟨h, by have := HK.out; omega⟩
              · exact .inr h
            · rcases hlie4 with h | h
              · rw [h]; exact ho3
              · right; intro q hq; rw [h] at hq; obtain rfl := Option.some.inj hq; exact h1.grown.size
          have HZ := Lib.hid (And.intro hown4 hstep)
          clear hown4 honto4 hlie4 hstep
          go_wp2_with fail
          go_roundw
          case rel =>
            refine ⟨m + 1, by omega, by go_num, ?_, HZ.out.2.1, HZ.out.2.2⟩
            have := HZ.out.1
            have e : n + (m + 1) = K + 1 := by have := HK.out; omega
            rw [e]
            exact this
          case measure => simp [intOf]; omega
        · have hmI : ¬ (m : Int) < 12 := by omega
          have HMK := Lib.hid (show ∀ W : World, Calls Tryz.prog 96 #[.int .i64 (i : Int), .int .i64 (K : Int), .int .i64 60] W fun e w' => ∃ v, e = .returned v ∧ w'.ownsRow W.heap.size 26 5 v 60 (defCells (marks i K 60)) ∧ Below W.heap.size W w' from fun W => markDefs_any i K 60 (by omega) (by omega) W)
          have HO := Lib.hid (And.intro hown (And.intro honto hblk))
          clear hown honto hblk hK
          go_wp2_with fail
          refine (HMK.out _).mono ?_
          rintro e w3 ⟨mv, rfl, hmk, b3⟩
          obtain ⟨mao, mc, rfl, _⟩ := own_slice hmk
          have hmr := (own_rowR hmk).2.1
          obtain ⟨gm, om, rfl⟩ : ∃ g o, mao = some ⟨g, o, none⟩ := by
            cases mao with
            | none => have := hmr.non rfl; omega
            | some ad =>
              obtain ⟨g, o, sp⟩ := ad
              obtain rfl : sp = none := (hmr.at' _ rfl).1
              exact ⟨g, o, rfl⟩
          have hown3 := own_below HO.out.1 b3
          have hmr' := (hmr.at' _ rfl).2
          have hml := hmr.len
          have hB3 : B ≤ w3.heap.size := Nat.le_trans hBw b3.size
          have HM3 := Lib.hid (And.intro hown3 (And.intro hmr' (And.intro hml b3)))
          clear hmk hmr hmr' hml b3 hown3 HMK
          go_wp2_with (first
            | (at_builtin; refine wpList_append_keep _ rfl _ _ 40 rfl B 26 i0 (.agg #[.string ⟨#[]⟩, .string ⟨#[]⟩, .string ⟨#[]⟩, .string ⟨#[]⟩, .bool false]) 5 72 Tryz.underlying40 hinf hz0 hz1 hz2 rfl (by decide) (.slice lao K lc) K (defCells (marks i 0 K)) rfl HM3.out.1 ⟨gm, om, none⟩ 60 mc (defCells (marks i K 60)) rfl HM3.out.2.2.1 HM3.out.2.1 (defCells_one _) ?d3 ?d4 hB3 ?_))
          case d3 => unfold maxLen; omega
          case d4 => omega
          intro v' w4 hown4 honto4 hlie4
          rw [← defCells_append, marks_add0] at hown4
          have hstep : Onto wo w4 (Value.slice vao n vc).ownBlock (n * 5) ∧ (v'.ownBlock = (Value.slice vao n vc).ownBlock ∨ ∀ q, v'.ownBlock = some q → wo.heap.size ≤ q) := by
            obtain ⟨ho1, ho2, ho3⟩ := HO.out
            have b3 := HM3.out.2.2.2
            have hxl : ∀ p, (Value.slice vao n vc).ownBlock = some p → p < wo.heap.size := fun p hp => (HG.out.2.2.lt p hp).2
            have h1 : Onto wo w3 (Value.slice vao n vc).ownBlock (n * 5) := ho2.step (Onto.ofBelow (row := none) (k := 0) b3 (fun p hp => by cases hp)) (.inr (fun q hq => by cases hq)) hxl
            refine ⟨h1.step honto4 ?_ hxl, ?_⟩
            · rcases ho3 with h | h
              · exact .inl ⟨h, by have := HK.out; omega⟩
              · exact .inr h
            · rcases hlie4 with h | h
              · rw [h]; exact ho3
              · right; intro q hq; rw [h] at hq; obtain rfl := Option.some.inj hq; exact h1.grown.size
          obtain ⟨nao, nc, rfl, _⟩ := own_slice hown4
          have b4a := (Below.refl w4.heap.size w4).alloc (Nat.le_refl _) (.cells #[.slice nao (K + 60) nc] 40)
          have hxl : ∀ p, (Value.slice vao n vc).ownBlock = some p → p < wo.heap.size := fun p hp => (HG.out.2.2.lt p hp).2
          have honto5 := hstep.1.step (Onto.ofBelow (row := none) (k := 0) b4a (fun p hp => by cases hp)) (.inr (fun q hq => by cases hq)) hxl
          have hown5 := own_below hown4 b4a
          have hout := HG.out.1.out
          have hout5 := own_onto hout honto5 (Distinct.symm (ne_of_lt (n := w.heap.size) (fun q hq => (HC.out.2.2 i _ q HG.out.2.1 hq).2) (fun q hq => (hout.lt q hq).1)))
          have hnews := cells_new w4 [.slice nao (K + 60) nc] 40 w4.heap.size rfl
          have hs5 : w.heap.size ≤ (w4.alloc (.cells #[.slice nao (K + 60) nc] 40)).heap.size := Nat.le_trans HG.out.1.size honto5.grown.size
          have HZ := Lib.hid (And.intro hown5 (And.intro honto5 (And.intro hstep.2 (And.intro hout5 (And.intro hnews hs5)))))
          clear hown4 honto4 hlie4 hstep b4a hxl honto5 hown5 hout hout5 hnews hs5 HO HM3 hBw hB3
          go_wp2_with (first
            | (at_builtin; refine wpList_append_own _ rfl _ _ 35 rfl w.heap.size 40 i1 (.slice none 0 0) 1 24 Tryz.underlying35 hinf1 hy0 hy1 hy2 rfl (by decide) u3 i (List.map (fun x : Value × Nat => x.1) U) rfl HZ.out.2.2.2.1 ⟨w4.heap.size, 0, none⟩ 1 1 [.slice nao (K + 60) nc] rfl rfl HZ.out.2.2.2.2.1 (fun u hu => by rw [List.mem_singleton.1 hu]; rfl) ?e3 ?e4 HZ.out.2.2.2.2.2 ?_))
          case e3 => unfold maxLen; omega
          case e4 => omega
          intro v2 w6 hown6 hgrow6 _
          have HF := Lib.hid (HG.out.1.step (x := (.slice vao n vc, marks i 0 n)) HG.out.2.1 HC.out.2.1 HC.out.2.2 hB (by simp only; rw [marks_len]; exact HZ.out.2.1) HZ.out.1 (by omega) HZ.out.2.2.1 hgrow6 hown6)
          clear hown6 hgrow6 HZ HG
          go_wp2_with fail
          go_roundw
          case rel => exact ⟨i + 1, _, by omega, by go_num, HF.out⟩
          case measure => simp [intOf]; omega
    · obtain rfl : i = N := by omega
      have hdone := HN.out
      have HD := Lib.hid (show GrownB wr b i u3 by
        have h1 : GrowSt w wr B b M M.length u3 U := by rw [hdone]; exact hG
        have h2 := h1.done (fun k y hy => ⟨(HC.out.1 k y hy).1, by have := (HC.out.1 k y hy).2; omega⟩)
        rwa [hdone] at h2)
      have hbel := hG.bel
      clear hG hod hbk hdone hdq
      go_wp2_with fail
      go_ret
      exact ⟨u3, rfl, HD.out, hbel⟩

end Go.Proofs.YtnlmfoccdmkncaaGreatDoor

/-
  bowdlerbook.Book.Apart, where lists of definitions alone are kept: each is as it was, and none shares memory with another one.
-/
namespace Go.Proofs.YtnlmfoccdmkncaaGreatDoor
open Go.RowKit
set_option maxRecDepth 100000
set_option linter.unusedVariables false
set_option linter.unusedSimpArgs false

/-- The cells of a book's other lists. -/
structure NilsAt (w : World) (b : Nat) : Prop where
  c0 : w.cell? ⟨b, 0, none⟩ = some (.slice none 0 0)
  c2 : w.cell? ⟨b, 2, none⟩ = some (.slice none 0 0)
  c4 : w.cell? ⟨b, 4, none⟩ = some (.slice none 0 0)
  c6 : w.cell? ⟨b, 6, none⟩ = some (.slice none 0 0)
  c8 : w.cell? ⟨b, 8, none⟩ = some (.slice none 0 0)
  c12 : w.cell? ⟨b, 12, none⟩ = some (.slice none 0 0)
  c14 : w.cell? ⟨b, 14, none⟩ = some (.slice none 0 0)
theorem BookAt.nils {w : World} {b : Nat} {dv wv : Value} (h : BookAt w b dv wv) : NilsAt w b :=
  ⟨h.cell 0 _ rfl, h.cell 2 _ rfl, h.cell 4 _ rfl, h.cell 6 _ rfl, h.cell 8 _ rfl, h.cell 12 _ rfl, h.cell 14 _ rfl⟩

theorem marked_all (M : List ListV) (k : Nat) (y : ListV) (h : (markTo M M.length)[k]? = some y) (hl : ∀ x ∈ M, x.2.length ≤ 50000) : y.2 = marks k 0 y.2.length ∧ y.2.length ≤ 50000 := by
  unfold markTo at h
  rw [List.getElem?_mapIdx] at h
  obtain ⟨x, hx, rfl⟩ := Option.map_eq_some_iff.1 h
  have hk := (List.getElem?_eq_some_iff.1 hx).1
  rw [if_pos hk]
  show marks k 0 x.2.length = marks k 0 (marks k 0 x.2.length).length ∧ (marks k 0 x.2.length).length ≤ 50000
  rw [marks_len]
  exact ⟨rfl, hl x (List.mem_of_getElem? hx)⟩

set_option maxHeartbeats 8000000 in
theorem apart_defs (B b : Nat) (L : List KeptV) (w : World) (hK : KeptB w B b L) (hL : L.length ≤ 250) (hl : ∀ x ∈ L, x.2.2.length ≤ 50000) (hB : B ≤ w.heap.size) :
    Calls Tryz.prog 14 #[.pointer (some ⟨b, 0, none⟩)] w fun e w' => e = .returned (.bool true) ∧ Below B w w' := by
  have hn0 : NilsAt w b := by obtain ⟨dv, wv, h1, _⟩ := hK.book; exact h1.nils
  have HK := Lib.hid hK
  have HL := Lib.hid hl
  have hS := fun W (h : KeptB W B b L) => stillDefs_any B b L W h hL
  have HS := Lib.hid hS
  clear hK hl hS
  obtain ⟨c0, c2, c4, c6, c8, c12, c14⟩ := hn0
  go_enter Tryz.func14, Tryz.ntmps14
  go_wp2_with (first
    | (go_at_call 34; refine (stillTexts_nil b _ c0).mono ?_; rintro e w' ⟨rfl, rfl⟩)
    | (go_at_call 35; refine (stillInts_nil b _ c2).mono ?_; rintro e w' ⟨rfl, rfl⟩)
    | (go_at_call 36; refine (stillBlocks_nil b _ c4).mono ?_; rintro e w' ⟨rfl, rfl⟩)
    | (go_at_call 37; refine (stillInls_nil b _ c6).mono ?_; rintro e w' ⟨rfl, rfl⟩)
    | (go_at_call 38; refine (stillParts_nil b _ c8).mono ?_; rintro e w' ⟨rfl, rfl⟩))
  refine (HS.out _ HK.out).mono ?_
  rintro e w1 ⟨rfl, b1⟩
  have hk1 := HK.out.below b1
  have hM := hk1.lists
  have hn1 : NilsAt w1 b := by obtain ⟨dv, wv, h1, _⟩ := hk1.book; exact h1.nils
  have hB1 : B ≤ w1.heap.size := Nat.le_trans hB b1.size
  have HP := Lib.hid (putDefs_any B b _ w1 hM (by simp; omega) hB1)
  have HB1 := Lib.hid (b1.mono hB)
  clear c0 c2 c4 c6 c8 c12 c14 hk1 hM b1 HS
  obtain ⟨c0, c2, c4, c6, c8, c12, c14⟩ := hn1
  go_wp2_with (first
    | (go_at_call 40; refine (stillSecs_nil b _ c12).mono ?_; rintro e w' ⟨rfl, rfl⟩)
    | (go_at_call 41; refine (stillDiags_nil b _ c14).mono ?_; rintro e w' ⟨rfl, rfl⟩)
    | (go_at_call 42; refine (putParts_nil b _ c8).mono ?_; rintro e w' ⟨rfl, rfl⟩)
    | (go_at_call 43; refine (putTexts_nil b _ c0).mono ?_; rintro e w' ⟨rfl, rfl⟩)
    | (go_at_call 44; refine (putInts_nil b _ c2).mono ?_; rintro e w' ⟨rfl, rfl⟩)
    | (go_at_call 45; refine (putBlocks_nil b _ c4).mono ?_; rintro e w' ⟨rfl, rfl⟩)
    | (go_at_call 46; refine (putInls_nil b _ c6).mono ?_; rintro e w' ⟨rfl, rfl⟩))
  refine HP.out.mono ?_
  rintro e w2 ⟨rfl, hM2, b2⟩
  have hn2 : NilsAt w2 b := by obtain ⟨dv, wv, h1, _⟩ := hM2.book; exact h1.nils
  have hB2 : B ≤ w2.heap.size := Nat.le_trans hB1 b2.size
  have HG := Lib.hid (growDefs_any B b _ w2 hM2 (fun k y hy => marked_all _ k y hy (fun x hx => by
    obtain ⟨z, hz, rfl⟩ := List.mem_map.1 hx
    exact HL.out z hz)) (by rw [markTo_len]; simp; omega) hB2)
  have HB2 := Lib.hid (HB1.out.trans b2)
  clear c0 c2 c4 c6 c8 c12 c14 hM2 b2 HP HB1
  obtain ⟨c0, c2, c4, c6, c8, c12, c14⟩ := hn2
  go_wp2_with (first
    | (go_at_call 48; refine (putSecs_nil b _ c12).mono ?_; rintro e w' ⟨rfl, rfl⟩)
    | (go_at_call 49; refine (putDiags_nil b _ c14).mono ?_; rintro e w' ⟨rfl, rfl⟩)
    | (go_at_call 54; refine (growParts_nil b _ c8).mono ?_; rintro e w' ⟨rfl, rfl⟩)
    | (go_at_call 50; refine (growTexts_nil b _ c0).mono ?_; rintro e w' ⟨rfl, rfl⟩)
    | (go_at_call 51; refine (growInts_nil b _ c2).mono ?_; rintro e w' ⟨rfl, rfl⟩)
    | (go_at_call 52; refine (growBlocks_nil b _ c4).mono ?_; rintro e w' ⟨rfl, rfl⟩)
    | (go_at_call 53; refine (growInls_nil b _ c6).mono ?_; rintro e w' ⟨rfl, rfl⟩))
  refine HG.out.mono ?_
  rintro e w3 ⟨gv, rfl, hG3, b3⟩
  obtain ⟨⟨ao, c, U, rfl, hUl, hUr, hUm⟩, ⟨dao, dc, wv, V, hbk3, hVl, hVr, hVm⟩⟩ := hG3
  have hn3 := hbk3.nils
  have c10 : w3.cell? ⟨b, 10, none⟩ = some (.slice dao _ dc) := hbk3.cell 10 _ rfl
  obtain ⟨N, hN⟩ : ∃ N, (markTo (L.map fun x => (x.1, x.2.2)) (L.map fun x => ((x.1, x.2.2) : ListV)).length).length = N := ⟨_, rfl⟩
  have hNl : N ≤ 250 := by rw [← hN, markTo_len]; simp; exact hL
  rw [hN] at hUl hUr hVl hVr c10 ⊢
  rw [hN] at hbk3
  have hm1 := fun W (h : Below w3.heap.size w3 W) => markedDefs_any U (.slice ao N c) c ao W (by rw [hUl]; exact hUr.below h) (hUm.below h) (by omega)
  rw [hUl] at hm1
  have hm2 := fun W (h : Below w3.heap.size w3 W) => markedDefs_any V (.slice dao N dc) dc dao W (by rw [hVl]; exact hVr.below h) (hVm.below h) (by omega)
  rw [hVl] at hm2
  have HM1 := Lib.hid hm1
  have HM2 := Lib.hid hm2
  have HB3 := Lib.hid (HB2.out.trans b3)
  have hB3 : B ≤ w3.heap.size := Nat.le_trans hB2 b3.size
  have HBK := Lib.hid hbk3
  clear c0 c2 c4 c6 c8 c12 c14 hUr hUm hVr hVm hm1 hm2 b3 hbk3 HG HB2 hN hUl hVl
  obtain ⟨c0, c2, c4, c6, c8, c12, c14⟩ := hn3
  go_wp2_with (first
    | (go_at_call 56; refine (growSecs_nil b _ c12).mono ?_; rintro e w' ⟨rfl, rfl⟩)
    | (go_at_call 57; refine (growDiags_nil b _ c14).mono ?_; rintro e w' ⟨rfl, rfl⟩)
    | (go_at_call 58; refine (markedTexts_nil _).mono ?_; rintro e w' ⟨rfl, rfl⟩)
    | (go_at_call 59; refine (markedInts_nil _).mono ?_; rintro e w' ⟨rfl, rfl⟩)
    | (go_at_call 60; refine (markedBlocks_nil _).mono ?_; rintro e w' ⟨rfl, rfl⟩)
    | (go_at_call 61; refine (markedInls_nil _).mono ?_; rintro e w' ⟨rfl, rfl⟩)
    | (go_at_call 62; refine (markedParts_nil _).mono ?_; rintro e w' ⟨rfl, rfl⟩))
  refine (HM1.out _ (Below.refl _ _)).mono ?_
  rintro e w4 ⟨rfl, b4⟩
  have c10b : w4.cell? ⟨b, 10, none⟩ = some (.slice dao N dc) := (HBK.out.below b4).cell 10 _ rfl
  have HB4 := Lib.hid b4
  clear c0 c2 c4 c6 c8 c12 c14 c10 b4
  go_wp2_with fail
  refine (HM2.out _ HB4.out).mono ?_
  rintro e w5 ⟨rfl, b5⟩
  have b5' := HB4.out.trans (b5.mono HB4.out.size)
  have hn5 := (HBK.out.below b5').nils
  have HB5 := Lib.hid (HB3.out.trans (b5'.mono hB3))
  clear c10b b5 b5'
  obtain ⟨c0, c2, c4, c6, c8, c12, c14⟩ := hn5
  go_wp2_with (first
    | (go_at_call 64; refine (markedSecs_nil _).mono ?_; rintro e w' ⟨rfl, rfl⟩)
    | (go_at_call 65; refine (markedDiags_nil _).mono ?_; rintro e w' ⟨rfl, rfl⟩))
  go_ret
  exact ⟨rfl, HB5.out⟩

end Go.Proofs.YtnlmfoccdmkncaaGreatDoor
