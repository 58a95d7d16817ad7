/-
  A slice of strings that came in; the text of DefineTakes, line by line.
-/
import Derived.Test.YtmllkffdejojbaaDoorTake
import Derived.SliceStrings
namespace Go.Proofs.YtmllkffdejojbaaDoor
open Go.RowKit Go.Deep Go.ChangeShapes Go.WideShapes
set_option linter.unusedVariables false
set_option linter.unusedSimpArgs false

/-- What the walk is told of a slice of strings that came in. -/
def IsNames (w : World) (a : Option Addr) (len : Nat) (P : Nat → ByteArray) : Prop :=
  ∃ b off, (0 < len → a = some ⟨b, off, none⟩) ∧ (0 < len → b < w.heap.size) ∧ (∀ i, i < len → w.cell? ⟨b, off + i, none⟩ = some (.string (P i))) ∧ (len : Int) ≤ 9223372036854775807

theorem cellsStr : Tryd.prog.cellsOf 9 = 1 := by kernel_rfl

theorem open_names {H : Type} {enc : TypeId × Value → H} {W : World} {a : Option Addr} {len cap : Nat} {d : DataW H} {p : List MemPlace}
    (hk : DataW.Trod enc Tryd.prog W 0 (fun _ => true) true 24 (.slice a len cap) d p) : ∃ P, IsNames W a len P := by
  obtain ⟨fuel, hf⟩ := hk
  rcases open_strings Tryd.underlying24 Tryd.underlying9 cellsStr hf with ⟨hcs, _⟩ | ⟨x, l, c, ss, hcs, hb, hl, hm, hss, hx, hel, hsz⟩
  · simp only [Value.cells, List.cons.injEq, Value.slice.injEq, and_true] at hcs
    obtain ⟨rfl, rfl, rfl⟩ := hcs
    exact ⟨fun _ => ByteArray.empty, 0, 0, fun h => absurd h (by omega), fun h => absurd h (by omega), fun i hi => absurd hi (by omega), by omega⟩
  · simp only [Value.cells, List.cons.injEq, Value.slice.injEq, and_true] at hcs
    obtain ⟨rfl, rfl, rfl⟩ := hcs
    have hmx : (len : Int) ≤ 9223372036854775807 := by unfold maxLen at hm; omega
    have hsl : len ≤ ss.length := by simp only [if_true] at hss; omega
    by_cases h0 : 0 < len
    · have k0 := hel 0 (by omega)
      rw [add_zero_at] at k0
      obtain ⟨hsp, hlt⟩ := spot_of_cell k0
      refine ⟨fun i => ss.getD i ByteArray.empty, x.block, x.off, fun _ => ?_, fun _ => hlt, fun i hi => ?_, hmx⟩
      · obtain ⟨b, o, s⟩ := x; simp only at hsp; rw [hsp]
      · rw [← add_at x hsp]; exact hel i (by omega)
    · exact ⟨fun _ => ByteArray.empty, 0, 0, fun h => absurd h h0, fun h => absurd h h0, fun i hi => absurd hi (by omega), hmx⟩

/-- The first names, as lists of bytes. -/
def namesTo (P : Nat → ByteArray) (i : Nat) : List (List UInt8) := (List.range i).map fun j => (P j).data.toList
theorem namesTo_succ (P : Nat → ByteArray) (i : Nat) : namesTo P (i + 1) = namesTo P i ++ [(P i).data.toList] := by
  unfold namesTo; rw [List.range_succ, List.map_append]; rfl
theorem namesTo_len (P : Nat → ByteArray) (i : Nat) : (namesTo P i).length = i := by simp [namesTo]
theorem namesTo_at (P : Nat → ByteArray) (i j : Nat) (h : j < i) : (namesTo P i).getD j [] = (P j).data.toList := by
  simp [namesTo, List.getD_eq_getElem?_getD, List.getElem?_range, h]

theorem takeText_snoc : ∀ (ns : List (List UInt8)) (n : List UInt8) (i : Nat), takeText (ns ++ [n]) i = takeText ns i ++ (takeLine n (i + ns.length) ++ [10])
  | [], n, i => by simp [takeText]
  | m :: ns, n, i => by
    simp only [List.cons_append, takeText]
    rw [takeText_snoc ns n (i + 1), show i + (m :: ns).length = i + 1 + ns.length by simp; omega]
    simp
theorem takeText_long : ∀ (ns : List (List UInt8)) (i : Nat), ns.length ≤ (takeText ns i).length
  | [], i => by simp [takeText]
  | m :: ns, i => by
    have := takeText_long ns (i + 1)
    simp [takeText]; omega

/-- What Take hands back of the law's text. -/
theorem take_text (Y rest : ByteArray) (P : Nat → ByteArray) (len : Nat) (hlen : len ≤ 12) (hP : ∀ n ∈ namesTo P len, Letters n ∧ n ≠ [] ∧ n.length ≤ 20) (w : World) (hE : Env w) (hz : Y.size ≤ 1000000)
    (hY : Y.data.toList = takeText (namesTo P len) 0 ++ 120 :: rest.data.toList) :
    Calls Tryd.prog 32 #[.string Y] w fun e w' => ∃ ao g cap, e = .returned (.tuple #[.slice ao len cap, .string ⟨(120 :: rest.data.toList).toArray⟩]) ∧ (0 < len → ao = some ⟨g, 0, none⟩) ∧ (0 < len → g < w'.heap.size) ∧
      (∀ j, j < len → w'.cell? ⟨g, j * 5, none⟩ = some (.string (P j)) ∧ w'.cell? ⟨g, j * 5 + 1, none⟩ = some (.string ⟨#[47, 117, UInt8.ofNat (97 + j)]⟩) ∧ w'.cell? ⟨g, j * 5 + 4, none⟩ = some (.bool false)) ∧ Below w.heap.size w w' := by
  refine (take_any Y w hE hz).mono ?_
  rintro e w' ⟨v, rfl, hown, hb⟩
  have hl := takeText_long (namesTo P len) 0
  rw [namesTo_len] at hl
  have hYl : Y.size = (takeText (namesTo P len) 0).length + (rest.data.toList.length + 1) := by rw [Lib.size_eq, hY]; simp
  have ht := takes_all (namesTo P len) 0 (Y.size - len) rest.data.toList [] hP (by rw [namesTo_len]; omega)
  rw [namesTo_len, show len + (Y.size - len + 1) = Y.size + 1 by omega, ← hY, List.nil_append] at ht
  rw [ht] at hown ⊢
  simp only at hown ⊢
  have hdl : (takeDefs (namesTo P len) 0).length = len := by rw [takeDefs_length, namesTo_len]
  rw [hdl] at hown
  have hcell : ∀ g, v.ownBlock = some g → ∀ j k : Nat, j < len → k < 5 → w'.cell? ⟨g, j * 5 + k, none⟩ = (DefL.cells ⟨(P j).data.toList, [47, 117, UInt8.ofNat (97 + j)], [], [], false⟩)[k]? := by
    intro g hg j k hj hk
    have hd := takeDefs_at (namesTo P len) 0 j (by rw [namesTo_len]; exact hj)
    rw [namesTo_at P len j hj, Nat.zero_add] at hd
    have hc := defCells_at _ j k _ hd hk
    rw [← hc]
    have hlt : j * 5 + k < (defCells (takeDefs (namesTo P len) 0)).length := by rw [hown.1]; omega
    rw [List.getElem?_eq_getElem hlt]
    have := hown.cells hg (j * 5 + k) _ (List.getElem?_eq_getElem hlt)
    rw [add_at _ rfl] at this
    simpa using this
  rcases hown.2 with ⟨rfl, e0⟩ | ⟨g, cap, cur, rfl, hg, hh, r⟩
  · subst e0
    exact ⟨none, 0, 0, rfl, fun h => absurd h (by omega), fun h => absurd h (by omega), fun j hj => absurd hj (by omega), hb⟩
  · refine ⟨_, g, cap, rfl, fun _ => rfl, fun _ => (Array.getElem?_eq_some_iff.1 hh).1, fun j hj => ⟨?_, ?_, ?_⟩, hb⟩
    · have := hcell g rfl j 0 hj (by omega); simpa [DefL.cells] using this
    · have := hcell g rfl j 1 hj (by omega); simpa [DefL.cells] using this
    · have := hcell g rfl j 4 hj (by omega); simpa [DefL.cells] using this

end Go.Proofs.YtmllkffdejojbaaDoor
