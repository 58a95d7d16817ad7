/-
  A slice of pairs that the call makes by append: what New asks of it. And joins, read off an order.
-/
import Derived.Test.YtehfjlonpnanoaaLatBad
namespace Go.Proofs.Ytehfjlonpnanoaa
open Go.RowKit

theorem Try.infoPair : (Try.prog.info? 42).map (fun i => (i.zero, i.size, i.bytes)) = some (some (.agg #[.int .i64 0, .int .i64 0]), 2, 16) := by kernel_rfl

def cellsOf (P : Nat → Int × Int) : Nat → List Value
  | 0 => []
  | k + 1 => cellsOf P k ++ [.int .i64 (P k).1, .int .i64 (P k).2]

theorem cellsOf_len (P : Nat → Int × Int) (m : Nat) : (cellsOf P m).length = m * 2 := by
  induction m with
  | zero => rfl
  | succ m ih => simp [cellsOf, ih]; omega

theorem cellsOf_at (P : Nat → Int × Int) (m i : Nat) (hi : i < m) : (cellsOf P m)[i * 2]? = some (.int .i64 (P i).1) ∧ (cellsOf P m)[i * 2 + 1]? = some (.int .i64 (P i).2) := by
  induction m with
  | zero => omega
  | succ m ih =>
    have hl := cellsOf_len P m
    unfold cellsOf
    by_cases e : i = m
    · subst e
      constructor
      · rw [List.getElem?_append_right (by omega), hl, Nat.sub_self]; rfl
      · rw [List.getElem?_append_right (by omega), hl, show i * 2 + 1 - i * 2 = 1 by omega]; rfl
    · rw [List.getElem?_append_left (by omega), List.getElem?_append_left (by omega)]
      exact ih (by omega)

theorem own_pairs {w : World} {base : Nat} {v : Value} {m : Nat} {P : Nat → Int × Int} (hown : w.ownsRow base 42 2 v m (cellsOf P m)) :
    ∃ ao g cap, v = .slice ao m cap ∧ (0 < m → ao = some ⟨g, 0, none⟩) ∧ (0 < m → g < w.heap.size) ∧
      ∀ i, i < m → w.cell? ⟨g, 0 + i * 2, none⟩ = some (.int .i64 (P i).1) ∧ w.cell? ⟨g, 0 + i * 2 + 1, none⟩ = some (.int .i64 (P i).2) := by
  rcases hown.2 with ⟨rfl, e0⟩ | ⟨g, cap, cur, rfl, hg, hh, r⟩
  · exact ⟨none, 0, 0, by rw [e0], fun h => by omega, fun h => by omega, fun i hi => by omega⟩
  · refine ⟨_, g, cap, rfl, fun _ => rfl, fun _ => lt_of_block hh, fun i hi => ?_⟩
    have h := cellsOf_at P m i hi
    rw [Nat.zero_add]
    exact ⟨(hown.cellAt _ (by omega)).trans h.1, (hown.cellAt _ (by omega)).trans h.2⟩

theorem two_new (w : World) (x y : Value) (t : TypeId) (b : Nat) (hb : b = w.heap.size) : ∀ j u, [x, y][j]? = some u → (w.alloc (.cells #[x, y] t)).cell? ⟨b, j, none⟩ = some u := by
  subst hb
  intro j u hj
  match j, hj with
  | 0, hj =>
    simp only [List.getElem?_cons_zero, Option.some.injEq] at hj
    subst hj
    simp
  | 1, hj =>
    simp only [List.getElem?_cons_succ, List.getElem?_cons_zero, Option.some.injEq] at hj
    subst hj
    simp

theorem two_new_add (w : World) (x y : Value) (t : TypeId) (b : Nat) (hb : b = w.heap.size) : ∀ j u, [x, y][j]? = some u → (w.alloc (.cells #[x, y] t)).cell? ((⟨b, 0, none⟩ : Addr).add j) = some u := by
  intro j u hj
  have : (⟨b, 0, none⟩ : Addr).add j = ⟨b, j, none⟩ := by unfold Addr.add; split <;> simp_all
  rw [this]
  exact two_new w x y t b hb j u hj

/-- A row of words says an order. -/
structure Says (n : Nat) (U : List Nat) (R : Nat → Nat → Prop) : Prop where
  bit : ∀ x y, x < n → (B U x y ↔ y < n ∧ R x y)
  refl : ∀ x, x < n → R x x
  anti : ∀ x y, x < n → y < n → R x y → R y x → x = y
  trans : ∀ x y z, x < n → y < n → z < n → R x y → R y z → R x z

theorem Says.join {n : Nat} {U : List Nat} {R : Nat → Nat → Prop} (s : Says n U R) {a b c : Nat} (ha : a < n) (hb : b < n) (hc : c < n) (h1 : R a c) (h2 : R b c) (h3 : ∀ y, y < n → R a y → R b y → R c y) :
    joinF n U a b = c := by
  have hpos : 0 ≤ joinF n U a b := by
    apply Classical.byContradiction
    intro hneg
    refine joinF_none (by omega) c hc ⟨(s.bit a c ha).2 ⟨hc, h1⟩, (s.bit b c hb).2 ⟨hc, h2⟩, fun y => ?_⟩
    rw [s.bit a y ha, s.bit b y hb, s.bit c y hc]
    constructor
    · rintro ⟨hy, hr⟩; exact ⟨⟨hy, s.trans _ _ _ ha hc hy h1 hr⟩, hy, s.trans _ _ _ hb hc hy h2 hr⟩
    · rintro ⟨⟨hy, r1⟩, _, r2⟩; exact ⟨hy, h3 y hy r1 r2⟩
  obtain ⟨hj, j1, j2, j3⟩ := joinF_spec hpos
  have r1 := ((s.bit _ _ ha).1 j1).2
  have r2 := ((s.bit _ _ hb).1 j2).2
  have r3 := ((s.bit _ _ hj).1 ((j3 c).2 ⟨(s.bit a c ha).2 ⟨hc, h1⟩, (s.bit b c hb).2 ⟨hc, h2⟩⟩)).2
  have := s.anti _ _ hj hc r3 (h3 _ hj r1 r2)
  omega

theorem Says.up {n m : Nat} {P : Nat → Int × Int} (hn : n ≤ 64) (hin : InRange n m P) (hanti : ∀ x y, x < n → y < n → Le m P x y → Le m P y x → x = y) : Says n (upOf n m P) (Le m P) where
  bit x y hx := by
    rw [B_upOf hn hin hx]
    exact ⟨fun h => ⟨Le_lt hin hx h, h⟩, fun h => h.2⟩
  refl x _ := .refl x
  anti := hanti
  trans _ _ _ _ _ _ h k := Rch.trans h k

theorem Says.down {n m : Nat} {P : Nat → Int × Int} (hn : n ≤ 64) (hin : InRange n m P) (hanti : ∀ x y, x < n → y < n → Le m P x y → Le m P y x → x = y) : Says n (downOf n m P) (fun x y => Le m P y x) where
  bit x y hx := B_downOf hn hin hx
  refl x _ := .refl x
  anti _ _ hx hy h k := hanti _ _ hx hy k h
  trans _ _ _ _ _ _ h k := Rch.trans k h

end Go.Proofs.Ytehfjlonpnanoaa
