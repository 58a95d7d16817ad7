/-
  bowdlerref1.Orders, least, Edge as plain functions; they answer as lattice.New, Join, Meet, Top, Bottom do. Plain facts.
-/
import Derived.Test.YtehfjlonpnanoaaLatLaws
namespace Go.Proofs.Ytehfjlonpnanoaa
open Go.RowKit
set_option linter.unusedVariables false
set_option linter.unusedSimpArgs false

/-- What the pairs say, and each level of itself. -/
def rel0 (m : Nat) (P : Nat → Int × Int) (x y : Nat) : Bool := (x == y) || (List.range m).any fun i => (P i).1.toNat == x && (P i).2.toNat == y
def relStep (k : Nat) (R : Nat → Nat → Bool) (x y : Nat) : Bool := R x y || (R x k && R k y)
def relClo (m : Nat) (P : Nat → Int × Int) : Nat → Nat → Nat → Bool
  | 0 => rel0 m P
  | k + 1 => relStep k (relClo m P k)
theorem rel0_iff (m : Nat) (P : Nat → Int × Int) (x y : Nat) : rel0 m P x y = true ↔ x = y ∨ Edge m P x y := by
  unfold rel0 Edge
  simp only [Bool.or_eq_true, beq_iff_eq, List.any_eq_true, List.mem_range, Bool.and_eq_true]
theorem relClo_bits {n m : Nat} {P : Nat → Int × Int} (hn : n ≤ 64) (hin : InRange n m P) : ∀ (k : Nat) (x y : Nat), k ≤ n → x < n → (relClo m P k x y = true ↔ B (cloUp n (prUp n P m) k) x y)
  | 0, x, y, _, hx => by
    rw [relClo, rel0_iff]
    show _ ↔ B (prUp n P m) x y
    rw [B_prUp hn hin m (Nat.le_refl _)]
    constructor
    · rintro (rfl | h)
      · exact .inl ⟨hx, rfl⟩
      · exact .inr h
    · rintro (⟨_, rfl⟩ | h)
      · exact .inl rfl
      · exact .inr h
  | k + 1, x, y, hk, hx => by
    have hs := small_prUp hn m m (Nat.le_refl _) hin
    show relStep k (relClo m P k) x y = true ↔ B (inUp k (cloUp n (prUp n P m) k) n) x y
    rw [B_inUp (small_cloUp hs k) k n (Nat.le_refl _)]
    unfold relStep
    rw [Bool.or_eq_true, Bool.and_eq_true, relClo_bits hn hin k x y (by omega) hx, relClo_bits hn hin k x k (by omega) hx, relClo_bits hn hin k k y (by omega) (by omega)]
    constructor
    · rintro (h | h)
      · exact .inl h
      · exact .inr ⟨hx, h⟩
    · rintro (h | ⟨_, h⟩)
      · exact .inl h
      · exact .inr h
theorem relClo_le {n m : Nat} {P : Nat → Int × Int} (hn : n ≤ 64) (hin : InRange n m P) {x y : Nat} (hx : x < n) : relClo m P n x y = true ↔ Le m P x y := by
  rw [relClo_bits hn hin n x y (Nat.le_refl _) hx]
  exact B_upOf hn hin hx

/-- The matrix in the midst of a phase: the places ahead of (a, b) are turned. -/
def midM (k : Nat) (R : Nat → Nat → Bool) (a b x y : Nat) : Bool := if x < a ∨ (x = a ∧ y < b) then relStep k R x y else R x y
theorem mid_zero (k : Nat) (R : Nat → Nat → Bool) (x y : Nat) : midM k R 0 0 x y = R x y := if_neg (by omega)
theorem mid_here (k : Nat) (R : Nat → Nat → Bool) (a b : Nat) : midM k R a b a b = R a b := if_neg (by omega)
theorem mid_ak (k : Nat) (R : Nat → Nat → Bool) (a b : Nat) : midM k R a b a k = R a k := by
  unfold midM relStep
  split
  · cases R a k <;> simp
  · rfl
theorem mid_kb (k : Nat) (R : Nat → Nat → Bool) (a b : Nat) : midM k R a b k b = R k b := by
  unfold midM relStep
  split
  · cases R k b <;> simp
  · rfl
theorem mid_row (k : Nat) (R : Nat → Nat → Bool) (a n x y : Nat) (hy : y < n) : midM k R a n x y = midM k R (a + 1) 0 x y := by
  unfold midM
  by_cases h : x < a ∨ (x = a ∧ y < n)
  · rw [if_pos h, if_pos (by omega)]
  · rw [if_neg h, if_neg (by omega)]
theorem mid_end (k : Nat) (R : Nat → Nat → Bool) (n x y : Nat) (hx : x < n) : midM k R n 0 x y = relStep k R x y := if_pos (Or.inl hx)
theorem mid_put (k : Nat) (R : Nat → Nat → Bool) (a b x y : Nat) : midM k R a (b + 1) x y = if x = a ∧ y = b then relStep k R a b else midM k R a b x y := by
  unfold midM
  by_cases h : x = a ∧ y = b
  · obtain ⟨rfl, rfl⟩ := h
    rw [if_pos (by omega), if_pos ⟨rfl, rfl⟩]
  · rw [if_neg h]
    by_cases h2 : x < a ∨ (x = a ∧ y < b)
    · rw [if_pos h2, if_pos (by omega)]
    · rw [if_neg h2, if_neg (by omega)]

def leqF (R : Nat → Nat → Bool) (up : Bool) (x y : Nat) : Bool := if up then R x y else R y x
def comL (R : Nat → Nat → Bool) (n a b : Nat) (up : Bool) : List Nat := (List.range n).filter fun x => leqF R up a x && leqF R up b x
def leastO (l : List Nat) (R : Nat → Nat → Bool) (up : Bool) : Option Nat := l.find? fun x => l.all fun y => leqF R up x y
def optI : Option Nat → Int
  | some x => x
  | none => -1
def leastF (R : Nat → Nat → Bool) (n a b : Nat) (up : Bool) : Int := optI (leastO (comL R n a b up) R up)
def edgeF (R : Nat → Nat → Bool) (n : Nat) (up : Bool) : Int := optI ((List.range n).find? fun x => (List.range n).all fun y => leqF R up y x)

theorem least_join {n : Nat} {U : List Nat} {Rp : Nat → Nat → Prop} (s : Says n U Rp) {R : Nat → Nat → Bool} {up : Bool} (hR : ∀ x y, x < n → y < n → (leqF R up x y = true ↔ Rp x y)) {a b : Nat} (ha : a < n) (hb : b < n) :
    leastF R n a b up = joinF n U a b := by
  have hm : ∀ x, x ∈ comL R n a b up ↔ x < n ∧ Rp a x ∧ Rp b x := fun x => by
    unfold comL
    rw [List.mem_filter, List.mem_range, Bool.and_eq_true]
    constructor
    · rintro ⟨h1, h2, h3⟩; exact ⟨h1, (hR a x ha h1).1 h2, (hR b x hb h1).1 h3⟩
    · rintro ⟨h1, h2, h3⟩; exact ⟨h1, (hR a x ha h1).2 h2, (hR b x hb h1).2 h3⟩
  unfold leastF leastO
  cases hf : (comL R n a b up).find? (fun x => (comL R n a b up).all fun y => leqF R up x y) with
  | some x =>
    have hx := (hm x).1 (List.mem_of_find?_eq_some hf)
    have hall := List.find?_some hf
    simp only [List.all_eq_true] at hall
    exact (s.join ha hb hx.1 hx.2.1 hx.2.2 fun y hy h1 h2 => (hR x y hx.1 hy).1 (hall y ((hm y).2 ⟨hy, h1, h2⟩))).symm
  | none =>
    have hno := List.find?_eq_none.1 hf
    by_cases hj : 0 ≤ joinF n U a b
    · exfalso
      obtain ⟨j0, j1, j2, j3⟩ := joinF_spec hj
      have r1 := (s.bit _ _ ha).1 j1
      have r2 := (s.bit _ _ hb).1 j2
      refine hno _ ((hm _).2 ⟨j0, r1.2, r2.2⟩) ?_
      simp only [List.all_eq_true]
      intro y hy
      obtain ⟨h1, h2, h3⟩ := (hm y).1 hy
      exact (hR _ y j0 h1).2 ((s.bit _ _ j0).1 ((j3 y).2 ⟨(s.bit _ _ ha).2 ⟨h1, h2⟩, (s.bit _ _ hb).2 ⟨h1, h3⟩⟩)).2
    · have := (foundTo_bd (fun c => U.getD c 0) (U.getD a 0 &&& U.getD b 0) n).1
      have h2 : -1 ≤ joinF n U a b := this
      show (-1 : Int) = _
      omega
theorem edge_fold {n : Nat} {U : List Nat} {Rp : Nat → Nat → Prop} (s : Says n U Rp) (hf : ∀ x y, x < n → y < n → 0 ≤ joinF n U x y) (h0 : 0 < n) {R : Nat → Nat → Bool} {up : Bool} (hR : ∀ x y, x < n → y < n → (leqF R up x y = true ↔ Rp x y)) :
    edgeF R n up = foldF (joinF n U) n := by
  obtain ⟨h1, h2⟩ := fold_above s hf h0 n (Nat.le_refl _)
  have hbd := foldF_bd (F := joinF n U) (n := n) (fun x y hx hy => ⟨hf x y hx hy, joinF_bd n U x y⟩) h0 n (Nat.le_refl _)
  unfold edgeF
  cases hfd : (List.range n).find? (fun x => (List.range n).all fun y => leqF R up y x) with
  | some x =>
    have hx := List.mem_range.1 (List.mem_of_find?_eq_some hfd)
    have hall := List.find?_some hfd
    simp only [List.all_eq_true, List.mem_range] at hall
    have e := s.anti _ _ hx h1 (h2 x hx) ((hR _ x h1 hx).1 (hall _ h1))
    show (x : Int) = _
    omega
  | none =>
    exfalso
    refine List.find?_eq_none.1 hfd _ (List.mem_range.2 h1) ?_
    simp only [List.all_eq_true, List.mem_range]
    intro y hy
    exact (hR y _ hy h1).2 (h2 y hy)

end Go.Proofs.Ytehfjlonpnanoaa
