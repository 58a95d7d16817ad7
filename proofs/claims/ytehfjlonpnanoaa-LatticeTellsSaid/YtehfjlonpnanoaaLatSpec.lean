/-
  The order of levels as plain lists of numbers: what New reckons, step by step.
-/
import Derived.Test.YtehfjlonpnanoaaLatBits
namespace Go.Proofs.Ytehfjlonpnanoaa

/-- After k rounds of the first loop: level i above itself. -/
def idUp (n k : Nat) : List Nat := (List.range n).map fun i => if i < k then p2 i else 0

def orAt (U : List Nat) (i x : Nat) : List Nat := U.set i (U.getD i 0 ||| x)

/-- The pairs, one by one. -/
def prUp (n : Nat) (P : Nat → Int × Int) : Nat → List Nat
  | 0 => idUp n n
  | k + 1 => orAt (prUp n P k) (P k).1.toNat (p2 (P k).2.toNat)

def inStep (k i : Nat) (V : List Nat) : List Nat := if (V.getD i 0).testBit k then orAt V i (V.getD k 0) else V
def inUp (k : Nat) (U : List Nat) : Nat → List Nat
  | 0 => U
  | i + 1 => inStep k i (inUp k U i)
def cloUp (n : Nat) (U : List Nat) : Nat → List Nat
  | 0 => U
  | k + 1 => inUp k (cloUp n U k) n

def dnStep (U : List Nat) (a b : Nat) (D : List Nat) : List Nat := if (U.getD a 0).testBit b then orAt D b (p2 a) else D
def dnRow (U : List Nat) (a : Nat) (D : List Nat) : Nat → List Nat
  | 0 => D
  | b + 1 => dnStep U a b (dnRow U a D b)
def dnAll (n : Nat) (U : List Nat) : Nat → List Nat
  | 0 => List.replicate n 0
  | a + 1 => dnRow U a (dnAll n U a) n

def Bad (U : List Nat) (a b : Nat) : Prop := (U.getD a 0).testBit b = true ∧ a ≠ b ∧ (U.getD b 0).testBit a = true

def Small (n : Nat) (U : List Nat) : Prop := U.length = n ∧ ∀ i, i < n → U.getD i 0 < W64

theorem small_orAt {n : Nat} {U : List Nat} (h : Small n U) (i x : Nat) (hx : x < W64) : Small n (orAt U i x) := by
  refine ⟨by simp [orAt, h.1], fun j hj => ?_⟩
  unfold orAt
  rw [List.getD_eq_getElem?_getD, List.getElem?_set]
  split
  · rename_i e
    subst e
    rw [if_pos (by rw [h.1]; exact hj)]
    have h1 := h.2 i hj
    rw [w64_pow] at *
    exact Nat.or_lt_two_pow h1 hx
  · rw [← List.getD_eq_getElem?_getD]; exact h.2 j hj

theorem pow_lt_w64 {i : Nat} (hi : i < 64) : p2 i < W64 := p2_lt hi

theorem getD_lt_w64 {n : Nat} {U : List Nat} (h : Small n U) (i : Nat) : U.getD i 0 < W64 := by
  by_cases hi : i < n
  · exact h.2 i hi
  · rw [List.getD_eq_getElem?_getD, List.getElem?_eq_none (by rw [h.1]; omega)]; simp [W64]

theorem small_idUp (n k : Nat) (hn : n ≤ 64) : Small n (idUp n k) := by
  refine ⟨by simp [idUp], fun i hi => ?_⟩
  unfold idUp
  rw [List.getD_eq_getElem?_getD, List.getElem?_map, List.getElem?_range hi]
  simp only [Option.map_some, Option.getD_some]
  split
  · exact pow_lt_w64 (by omega)
  · simp [W64]

theorem small_inStep {n : Nat} {U : List Nat} (h : Small n U) (k i : Nat) : Small n (inStep k i U) := by
  unfold inStep; split
  · exact small_orAt h _ _ (getD_lt_w64 h k)
  · exact h

theorem small_inUp {n : Nat} {U : List Nat} (h : Small n U) (k i : Nat) : Small n (inUp k U i) := by
  induction i with
  | zero => exact h
  | succ i ih => exact small_inStep ih k i

theorem small_cloUp {n : Nat} {U : List Nat} (h : Small n U) (k : Nat) : Small n (cloUp n U k) := by
  induction k with
  | zero => exact h
  | succ k ih => exact small_inUp ih k n

theorem small_prUp {n : Nat} {P : Nat → Int × Int} (hn : n ≤ 64) (m k : Nat) (hk : k ≤ m) (hin : ∀ i, i < m → 0 ≤ (P i).1 ∧ (P i).1 < n ∧ 0 ≤ (P i).2 ∧ (P i).2 < n) : Small n (prUp n P k) := by
  induction k with
  | zero => exact small_idUp n n hn
  | succ k ih =>
    have := hin k (by omega)
    exact small_orAt (ih (by omega)) _ _ (pow_lt_w64 (by omega))

theorem small_zero (n : Nat) : Small n (List.replicate n 0) := by
  refine ⟨by simp, fun i hi => ?_⟩
  simp [List.getD_eq_getElem?_getD, hi, W64]

theorem small_dnStep {n : Nat} {U D : List Nat} (h : Small n D) {a : Nat} (ha : a < 64) (b : Nat) : Small n (dnStep U a b D) := by
  unfold dnStep; split
  · exact small_orAt h _ _ (pow_lt_w64 ha)
  · exact h

theorem small_dnRow {n : Nat} {U D : List Nat} (h : Small n D) {a : Nat} (ha : a < 64) (b : Nat) : Small n (dnRow U a D b) := by
  induction b with
  | zero => exact h
  | succ b ih => exact small_dnStep ih ha b

theorem small_dnAll {n : Nat} {U : List Nat} (hn : n ≤ 64) {a : Nat} (ha : a ≤ n) : Small n (dnAll n U a) := by
  induction a with
  | zero => exact small_zero n
  | succ a ih => exact small_dnRow (ih (by omega)) (by omega) n

theorem idUp_zero (n : Nat) : idUp n 0 = List.replicate n 0 := by
  unfold idUp
  apply List.ext_getElem <;> simp

theorem idUp_succ (n k : Nat) (_hk : k < n) : (idUp n k).set k (p2 k) = idUp n (k + 1) := by
  unfold idUp
  apply List.ext_getElem
  · simp
  · intro i h1 h2
    simp only [List.length_set, List.length_map, List.length_range] at h1
    simp only [List.getElem_set, List.getElem_map, List.getElem_range]
    by_cases e : k = i
    · subst e; simp
    · rw [if_neg e]
      have : (i < k) ↔ (i < k + 1) := by omega
      simp [this]

end Go.Proofs.Ytehfjlonpnanoaa
