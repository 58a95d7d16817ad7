/-
  What New reckons is the order of the pairs: its bits are reflexive, transitive, contain the pairs and nothing that does not follow; bounds are least upper and greatest lower bounds.
-/
import Derived.Test.YtehfjlonpnanoaaLatNew
namespace Go.Proofs.Ytehfjlonpnanoaa

def B (U : List Nat) (x y : Nat) : Prop := (U.getD x 0).testBit y = true

theorem B_orAt {n : Nat} {U : List Nat} (h : Small n U) (i v x y : Nat) (hi : i < n) : B (orAt U i v) x y ↔ B U x y ∨ (x = i ∧ v.testBit y = true) := by
  unfold B orAt
  rw [List.getD_eq_getElem?_getD, List.getElem?_set]
  by_cases e : i = x
  · subst e
    rw [if_pos rfl, if_pos (by rw [h.1]; exact hi)]
    simp [Nat.testBit_or]
  · rw [if_neg e, ← List.getD_eq_getElem?_getD]
    constructor
    · intro h'; exact .inl h'
    · rintro (h' | ⟨h', _⟩)
      · exact h'
      · omega

theorem B_p2 (k y : Nat) : (p2 k).testBit y = true ↔ y = k := by
  unfold p2
  rw [Nat.testBit_two_pow]
  simp
  exact eq_comm

theorem B_idUp (n x y : Nat) : B (idUp n n) x y ↔ x < n ∧ y = x := by
  unfold B idUp
  by_cases h : x < n
  · rw [List.getD_eq_getElem?_getD, List.getElem?_map, List.getElem?_range h]
    simp only [Option.map_some, Option.getD_some, h, if_true, true_and]
    exact B_p2 x y
  · rw [List.getD_eq_getElem?_getD, List.getElem?_eq_none (by simp; omega)]
    simp [h]

theorem B_inUp {n : Nat} {U : List Nat} (h : Small n U) (k : Nat) (i : Nat) (hi : i ≤ n) (x y : Nat) : B (inUp k U i) x y ↔ B U x y ∨ (x < i ∧ B U x k ∧ B U k y) := by
  induction i generalizing x y with
  | zero => simp [inUp]
  | succ i ih =>
    have ih' := fun x y => ih (by omega) x y
    have hs := small_inUp h k i
    show B (inStep k i (inUp k U i)) x y ↔ _
    unfold inStep
    have hik : B (inUp k U i) i k ↔ B U i k := by rw [ih']; simp
    have hky : ∀ y, B (inUp k U i) k y ↔ B U k y := fun y => by
      rw [ih']; constructor
      · rintro (a | ⟨_, _, a⟩) <;> exact a
      · exact .inl
    split
    · rename_i hb
      have hb' : B U i k := hik.1 hb
      rw [B_orAt hs i _ x y (by omega), ih']
      have : (((inUp k U i).getD k 0).testBit y = true) ↔ B U k y := hky y
      rw [this]
      constructor
      · rintro ((a | ⟨a, b, c⟩) | ⟨a, b⟩)
        · exact .inl a
        · exact .inr ⟨by omega, b, c⟩
        · exact .inr ⟨by omega, by rw [a]; exact hb', b⟩
      · rintro (a | ⟨a, b, c⟩)
        · exact .inl (.inl a)
        · by_cases e : x = i
          · exact .inr ⟨e, c⟩
          · exact .inl (.inr ⟨by omega, b, c⟩)
    · rename_i hb
      rw [ih']
      constructor
      · rintro (a | ⟨a, b, c⟩)
        · exact .inl a
        · exact .inr ⟨by omega, b, c⟩
      · rintro (a | ⟨a, b, c⟩)
        · exact .inl a
        · by_cases e : x = i
          · subst e; exact absurd (hik.2 b) hb
          · exact .inr ⟨by omega, b, c⟩

theorem B_lt {n : Nat} {U : List Nat} (h : Small n U) {x y : Nat} (hb : B U x y) : x < n := by
  by_cases hx : x < n
  · exact hx
  · unfold B at hb
    rw [List.getD_eq_getElem?_getD, List.getElem?_eq_none (by rw [h.1]; omega)] at hb
    simp at hb

/-- Reached from x by a relation, in steps. -/
inductive Rch (R : Nat → Nat → Prop) : Nat → Nat → Prop
  | refl (x) : Rch R x x
  | step {x y z} : Rch R x y → R y z → Rch R x z

theorem Rch.trans {R : Nat → Nat → Prop} {x y z : Nat} (h : Rch R x y) (k : Rch R y z) : Rch R x z := by
  induction k with
  | refl => exact h
  | step _ r ih => exact .step ih r

theorem Rch.of {R : Nat → Nat → Prop} {x y : Nat} (h : R x y) : Rch R x y := .step (.refl x) h

theorem cloUp_sub {n : Nat} {U : List Nat} (h : Small n U) (k : Nat) {x y : Nat} (hb : B U x y) : B (cloUp n U k) x y := by
  induction k with
  | zero => exact hb
  | succ k ih => exact (B_inUp (small_cloUp h k) k n (Nat.le_refl _) x y).2 (.inl ih)

theorem cloUp_rch {n : Nat} {U : List Nat} (h : Small n U) (k : Nat) {x y : Nat} (hb : B (cloUp n U k) x y) : Rch (B U) x y := by
  induction k generalizing x y with
  | zero => exact .of hb
  | succ k ih =>
    rcases (B_inUp (small_cloUp h k) k n (Nat.le_refl _) x y).1 hb with a | ⟨_, a, b⟩
    · exact ih a
    · exact (ih a).trans (ih b)

theorem cloUp_via {n : Nat} {U : List Nat} (h : Small n U) (k : Nat) {x m y : Nat} (hm : m < k) (h1 : B (cloUp n U k) x m) (h2 : B (cloUp n U k) m y) : B (cloUp n U k) x y := by
  induction k generalizing x y m with
  | zero => omega
  | succ k ih =>
    have e := fun x y => B_inUp (small_cloUp h k) k n (Nat.le_refl _) x y
    have hlt : ∀ {x y}, B (cloUp n U k) x y → x < n := fun hb => B_lt (small_cloUp h k) hb
    by_cases hmk : m = k
    · subst hmk
      have a : B (cloUp n U m) x m := by
        rcases (e x m).1 h1 with a | ⟨_, a, _⟩ <;> exact a
      have b : B (cloUp n U m) m y := by
        rcases (e m y).1 h2 with a | ⟨_, _, a⟩ <;> exact a
      exact (e x y).2 (.inr ⟨hlt a, a, b⟩)
    · have hmk' : m < k := by omega
      rcases (e x m).1 h1 with a | ⟨_, a, a'⟩
      · rcases (e m y).1 h2 with b | ⟨_, b, b'⟩
        · exact (e x y).2 (.inl (ih hmk' a b))
        · exact (e x y).2 (.inr ⟨hlt a, ih hmk' a b, b'⟩)
      · rcases (e m y).1 h2 with b | ⟨_, b, b'⟩
        · exact (e x y).2 (.inr ⟨hlt a, a, ih hmk' a' b⟩)
        · exact (e x y).2 (.inr ⟨hlt a, a, b'⟩)

theorem cloUp_iff {n : Nat} {U : List Nat} (h : Small n U) (hr : ∀ x, x < n → B U x x) (hy : ∀ x y, B U x y → y < n) {x y : Nat} (hx : x < n) : B (cloUp n U n) x y ↔ Rch (B U) x y := by
  constructor
  · exact cloUp_rch h n
  · intro hR
    have : B (cloUp n U n) x y ∧ y < n := by
      induction hR with
      | refl => exact ⟨cloUp_sub h n (hr x hx), hx⟩
      | step h1 r ih => exact ⟨cloUp_via h n ih.2 ih.1 (cloUp_sub h n r), hy _ _ r⟩
    exact this.1

/-- One pair says x is below y. -/
def Edge (m : Nat) (P : Nat → Int × Int) (x y : Nat) : Prop := ∃ i, i < m ∧ (P i).1.toNat = x ∧ (P i).2.toNat = y

def InRange (n m : Nat) (P : Nat → Int × Int) : Prop := ∀ i, i < m → 0 ≤ (P i).1 ∧ (P i).1 < n ∧ 0 ≤ (P i).2 ∧ (P i).2 < n

theorem B_prUp {n m : Nat} {P : Nat → Int × Int} (hn : n ≤ 64) (hin : InRange n m P) (k : Nat) (hk : k ≤ m) (x y : Nat) : B (prUp n P k) x y ↔ (x < n ∧ y = x) ∨ Edge k P x y := by
  induction k with
  | zero => simp [prUp, B_idUp, Edge]
  | succ k ih =>
    have hb := hin k (by omega)
    show B (orAt (prUp n P k) _ _) x y ↔ _
    rw [B_orAt (small_prUp hn m k (by omega) hin) _ _ x y (by omega), ih (by omega), B_p2]
    constructor
    · rintro ((a | ⟨i, hi, a⟩) | ⟨a, b⟩)
      · exact .inl a
      · exact .inr ⟨i, by omega, a⟩
      · exact .inr ⟨k, by omega, a.symm, b.symm⟩
    · rintro (a | ⟨i, hi, a, b⟩)
      · exact .inl (.inl a)
      · by_cases e : i = k
        · subst e; exact .inr ⟨a.symm, b.symm⟩
        · exact .inl (.inr ⟨i, by omega, a, b⟩)

def Le (m : Nat) (P : Nat → Int × Int) : Nat → Nat → Prop := Rch (Edge m P)

theorem rch_mono {R S : Nat → Nat → Prop} (h : ∀ x y, R x y → Rch S x y) {x y : Nat} (k : Rch R x y) : Rch S x y := by
  induction k with
  | refl => exact .refl _
  | step _ r ih => exact ih.trans (h _ _ r)

theorem B_upOf {n m : Nat} {P : Nat → Int × Int} (hn : n ≤ 64) (hin : InRange n m P) {x y : Nat} (hx : x < n) : B (upOf n m P) x y ↔ Le m P x y := by
  have e := fun x y => B_prUp hn hin m (Nat.le_refl _) x y
  have hs := small_prUp hn m m (Nat.le_refl _) hin
  unfold upOf
  rw [cloUp_iff hs (fun x hx => (e x x).2 (.inl ⟨hx, rfl⟩)) (fun x y hb => by
    rcases (e x y).1 hb with ⟨a, b⟩ | ⟨i, hi, a, b⟩
    · omega
    · have := hin i hi; omega) hx]
  constructor
  · exact rch_mono fun x y hb => by
      rcases (e x y).1 hb with ⟨a, b⟩ | c
      · rw [b]; exact .refl _
      · exact .of c
  · exact rch_mono fun x y hb => .of ((e x y).2 (.inr hb))

theorem Le_lt {n m : Nat} {P : Nat → Int × Int} (hin : InRange n m P) {x y : Nat} (hx : x < n) (h : Le m P x y) : y < n := by
  induction h with
  | refl => exact hx
  | step _ r _ => obtain ⟨i, hi, a, b⟩ := r; have := hin i hi; omega

theorem small_upOf {n m : Nat} {P : Nat → Int × Int} (hn : n ≤ 64) (hin : InRange n m P) : Small n (upOf n m P) := small_cloUp (small_prUp hn m m (Nat.le_refl _) hin) n

theorem B_dnRow {n : Nat} {U D : List Nat} (h : Small n D) {a : Nat} (ha : a < 64) (b : Nat) (hb : b ≤ n) (x y : Nat) : B (dnRow U a D b) x y ↔ B D x y ∨ (x < b ∧ y = a ∧ B U a x) := by
  induction b generalizing x y with
  | zero => simp [dnRow]
  | succ b ih =>
    have ih' := fun x y => ih (by omega) x y
    show B (dnStep U a b (dnRow U a D b)) x y ↔ _
    unfold dnStep
    split
    · rename_i hbit
      rw [B_orAt (small_dnRow h ha b) _ _ x y (by omega), ih', B_p2]
      constructor
      · rintro ((c | ⟨c1, c2, c3⟩) | ⟨c1, c2⟩)
        · exact .inl c
        · exact .inr ⟨by omega, c2, c3⟩
        · exact .inr ⟨by omega, c2, by rw [c1]; exact hbit⟩
      · rintro (c | ⟨c1, c2, c3⟩)
        · exact .inl (.inl c)
        · by_cases e : x = b
          · exact .inr ⟨e, c2⟩
          · exact .inl (.inr ⟨by omega, c2, c3⟩)
    · rename_i hbit
      rw [ih']
      constructor
      · rintro (c | ⟨c1, c2, c3⟩)
        · exact .inl c
        · exact .inr ⟨by omega, c2, c3⟩
      · rintro (c | ⟨c1, c2, c3⟩)
        · exact .inl c
        · by_cases e : x = b
          · subst e; exact absurd c3 hbit
          · exact .inr ⟨by omega, c2, c3⟩

theorem B_dnAll {n : Nat} {U : List Nat} (hn : n ≤ 64) (a : Nat) (ha : a ≤ n) (x y : Nat) : B (dnAll n U a) x y ↔ x < n ∧ y < a ∧ B U y x := by
  induction a generalizing x y with
  | zero =>
    simp only [dnAll, Nat.not_lt_zero, false_and, and_false, iff_false]
    unfold B
    rw [List.getD_eq_getElem?_getD, List.getElem?_replicate]
    split <;> simp
  | succ a ih =>
    show B (dnRow U a (dnAll n U a) n) x y ↔ _
    rw [B_dnRow (small_dnAll hn (by omega)) (by omega) n (Nat.le_refl _), ih (by omega)]
    constructor
    · rintro (⟨c1, c2, c3⟩ | ⟨c1, c2, c3⟩)
      · exact ⟨c1, by omega, c3⟩
      · exact ⟨c1, by omega, by rw [c2]; exact c3⟩
    · rintro ⟨c1, c2, c3⟩
      by_cases e : y = a
      · exact .inr ⟨c1, e, by rw [← e]; exact c3⟩
      · exact .inl ⟨c1, by omega, c3⟩

theorem B_downOf {n m : Nat} {P : Nat → Int × Int} (hn : n ≤ 64) (hin : InRange n m P) {x y : Nat} (hx : x < n) : B (downOf n m P) x y ↔ y < n ∧ Le m P y x := by
  unfold downOf
  rw [B_dnAll hn n (Nat.le_refl _)]
  constructor
  · rintro ⟨_, a, b⟩; exact ⟨a, (B_upOf hn hin a).1 b⟩
  · rintro ⟨a, b⟩; exact ⟨hx, a, (B_upOf hn hin a).2 b⟩

theorem foundTo_spec {A : Nat → Nat} {both k : Nat} (h : 0 ≤ foundTo A both k) : (foundTo A both k).toNat < k ∧ both.testBit (foundTo A both k).toNat = true ∧ A (foundTo A both k).toNat = both := by
  induction k with
  | zero => simp [foundTo] at h
  | succ k ih =>
    unfold foundTo at h ⊢
    split
    · rename_i hc
      simp only [Bool.and_eq_true, beq_iff_eq] at hc
      simp only [Int.toNat_natCast]
      exact ⟨by omega, hc.1, hc.2⟩
    · rename_i hc
      rw [if_neg hc] at h
      have := ih h
      exact ⟨by omega, this.2⟩

theorem foundTo_none {A : Nat → Nat} {both k : Nat} (h : foundTo A both k < 0) : ∀ c, c < k → ¬ (both.testBit c = true ∧ A c = both) := by
  induction k with
  | zero => intro c hc; omega
  | succ k ih =>
    unfold foundTo at h
    split at h
    · omega
    · rename_i hc
      intro c hc' hb
      by_cases e : c = k
      · subst e; simp [hb.1, hb.2] at hc
      · exact ih h c (by omega) hb

theorem joinF_spec {n : Nat} {U : List Nat} {a b : Nat} (h : 0 ≤ joinF n U a b) : (joinF n U a b).toNat < n ∧ B U a (joinF n U a b).toNat ∧ B U b (joinF n U a b).toNat ∧ ∀ y, B U (joinF n U a b).toNat y ↔ B U a y ∧ B U b y := by
  obtain ⟨h1, h2, h3⟩ := foundTo_spec h
  unfold B
  rw [Nat.testBit_and, Bool.and_eq_true] at h2
  refine ⟨h1, h2.1, h2.2, fun y => ?_⟩
  have : U.getD (joinF n U a b).toNat 0 = U.getD a 0 &&& U.getD b 0 := h3
  rw [this, Nat.testBit_and, Bool.and_eq_true]

theorem joinF_none {n : Nat} {U : List Nat} {a b : Nat} (h : joinF n U a b < 0) (c : Nat) (hc : c < n) : ¬ (B U a c ∧ B U b c ∧ ∀ y, B U c y ↔ B U a y ∧ B U b y) := by
  rintro ⟨h1, h2, h3⟩
  refine foundTo_none h c hc ⟨by rw [Nat.testBit_and, Bool.and_eq_true]; exact ⟨h1, h2⟩, ?_⟩
  apply Nat.eq_of_testBit_eq
  intro y
  rw [Nat.testBit_and, Bool.eq_iff_iff, Bool.and_eq_true]
  exact h3 y

end Go.Proofs.Ytehfjlonpnanoaa
