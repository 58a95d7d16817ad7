/-
  What target's readers make of plain text: plain facts, no program in sight.
-/
import Derived.Test.YtmllkffdejojbaaDoorEntFn
import Derived.Test.YtmllkffdejojbaaDoorTgtSpec
import Derived.Test.YtmllkffdejojbaaDoorSafeSpec
namespace Go.Proofs.YtmllkffdejojbaaDoor
open Go.RowKit

/-- Small letters. -/
def Letters (l : List UInt8) : Prop := ∀ b ∈ l, 97 ≤ b.toNat ∧ b.toNat ≤ 122

theorem Letters.tail {c : UInt8} {l : List UInt8} (h : Letters (c :: l)) : Letters l := fun b hb => h b (List.mem_cons_of_mem _ hb)
theorem Letters.head {c : UInt8} {l : List UInt8} (h : Letters (c :: l)) : 97 ≤ c.toNat ∧ c.toNat ≤ 122 := h c (List.mem_cons_self ..)
theorem Letters.append {a b : List UInt8} (ha : Letters a) (hb : Letters b) : Letters (a ++ b) := fun x hx => by
  rcases List.mem_append.1 hx with h | h
  · exact ha x h
  · exact hb x h

theorem ne_of_toNat {c d : UInt8} (h : c.toNat ≠ d.toNat) : c ≠ d := fun e => h (by rw [e])

/-- Bytes that a text without its escapes keeps as they are. -/
def PlainB (l : List UInt8) : Prop := ∀ b ∈ l, b ≠ 92 ∧ b ≠ 38

theorem Letters.plain {l : List UInt8} (h : Letters l) : PlainB l := fun b hb => by
  have := h b hb
  exact ⟨ne_of_toNat (by simp; omega), ne_of_toNat (by simp; omega)⟩

theorem unescF_plain : ∀ (l : List UInt8) (m : Nat) (r : List UInt8), PlainB l → unescF (l.length + m) (l ++ r) = l ++ unescF m r := by
  intro l
  induction l with
  | nil => intro m r _; simp
  | cons c l ih =>
    intro m r h
    have hc := h c (List.mem_cons_self ..)
    rw [show (c :: l).length + m = (l.length + m) + 1 by simp; omega, List.cons_append]
    conv => lhs; unfold unescF
    rw [if_neg (by rintro ⟨h1, _⟩; exact hc.1 h1), entAt_other c _ hc.2, if_neg (by simp)]
    rw [ih m r (fun b hb => h b (List.mem_cons_of_mem _ hb))]
    rfl

theorem unescF_nil (m : Nat) : unescF m [] = [] := by cases m <;> rfl

theorem unesc_plain (l : List UInt8) (h : PlainB l) : unesc l = l := by
  have := unescF_plain l 0 [] h
  simp [unescF_nil] at this
  exact this

theorem unescF_sign (m : Nat) (d : UInt8) (l : List UInt8) (h : asciiP d = true) : unescF (m + 1) (92 :: d :: l) = d :: unescF m l := by
  conv => lhs; unfold unescF
  rw [if_pos ⟨rfl, by simp [h]⟩]
  rfl

theorem scan_plain (e : UInt8) (bad : UInt8 → Bool) : ∀ (a : List UInt8) (m i : Nat) (l : List UInt8), (∀ b ∈ a, b ≠ 92 ∧ b ≠ e ∧ bad b = false ∧ b ≠ 0) → scanTo e bad (a.length + m) (a ++ l) i = scanTo e bad m l (i + a.length) := by
  intro a
  induction a with
  | nil => intro m i l _; simp
  | cons c a ih =>
    intro m i l h
    obtain ⟨h1, h2, h3, h4⟩ := h c (List.mem_cons_self ..)
    rw [show (c :: a).length + m = (a.length + m) + 1 by simp; omega, List.cons_append]
    conv => lhs; unfold scanTo
    rw [if_neg h1, if_neg h2, if_neg (by rintro (h | h); rw [h3] at h; cases h; exact h4 h)]
    rw [ih m (i + 1) l (fun b hb => h b (List.mem_cons_of_mem _ hb)), show i + 1 + a.length = i + (c :: a).length by simp; omega]

theorem scan_slash (e : UInt8) (bad : UInt8 → Bool) (m i : Nat) (d : UInt8) (l : List UInt8) (h : d ≠ 0) : scanTo e bad (m + 1) (92 :: d :: l) i = scanTo e bad m l (i + 2) := by
  conv => lhs; unfold scanTo
  rw [if_pos rfl, if_neg (by simpa using h)]
  rfl

theorem scan_hit (e : UInt8) (bad : UInt8 → Bool) (m i : Nat) (l : List UInt8) (h : e ≠ 92) : scanTo e bad (m + 1) (e :: l) i = some i := by
  unfold scanTo
  rw [if_neg h, if_pos rfl]

theorem scan_nil (e : UInt8) (bad : UInt8 → Bool) (m i : Nat) : scanTo e bad m [] i = none := by cases m <;> rfl

theorem dest_plain : ∀ (a : List UInt8) (m o i : Nat) (l : List UInt8), Letters a → destGo (a.length + m) (a ++ l) o i = destGo m l o (i + a.length) := by
  intro a
  induction a with
  | nil => intro m o i l _; simp
  | cons c a ih =>
    intro m o i l h
    have hc := h.head
    rw [show (c :: a).length + m = (a.length + m) + 1 by simp; omega, List.cons_append]
    conv => lhs; unfold destGo
    have hw : isWhite c = false := by
      unfold isWhite
      simp only [Bool.or_eq_false_iff, decide_eq_false_iff_not, beq_eq_false_iff_ne, UInt8.le_iff_toNat_le]
      exact ⟨by simp; omega, ne_of_toNat (by simp; omega)⟩
    rw [if_neg (by rw [hw]; simp), if_neg (by rintro ⟨h1, _⟩; exact ne_of_toNat (c := c) (d := 92) (by simp; omega) h1), if_neg (ne_of_toNat (by simp; omega)), if_neg (by rintro ⟨h1, _⟩; exact ne_of_toNat (c := c) (d := 41) (by simp; omega) h1), if_neg (ne_of_toNat (by simp; omega))]
    rw [ih m o (i + 1) l h.tail, show i + 1 + a.length = i + (c :: a).length by simp; omega]

theorem destGo_stop (m o i : Nat) (c : UInt8) (l : List UInt8) (h : isWhite c = true ∨ (c = 41 ∧ o = 0)) : destGo (m + 1) (c :: l) o i = (o, i) := by
  unfold destGo
  rcases h with h | ⟨rfl, rfl⟩
  · rw [if_pos h]
  · rw [if_neg (by decide), if_neg (by rintro ⟨h, _⟩; exact absurd h (by decide)), if_neg (by decide), if_pos ⟨rfl, rfl⟩]

/-- A target of letters with white, or a bracket, behind it. -/
theorem dest_letters (url l : List UInt8) (c : UInt8) (hu : Letters url) (hne : url ≠ []) (hc : isWhite c = true ∨ c = 41) : dest (url ++ c :: l) = (url, url.length, true) := by
  unfold dest
  obtain ⟨u, us, rfl⟩ : ∃ u us, url = u :: us := by cases url with | nil => exact absurd rfl hne | cons u us => exact ⟨u, us, rfl⟩
  have hu0 := hu.head
  rw [if_neg (by simp; exact ne_of_toNat (by simp; omega))]
  have hgo : destGo ((u :: us) ++ c :: l).length ((u :: us) ++ c :: l) 0 0 = (0, (u :: us).length) := by
    rw [show ((u :: us) ++ c :: l).length = (u :: us).length + (l.length + 1) by simp; omega, dest_plain (u :: us) (l.length + 1) 0 0 (c :: l) hu]
    rw [destGo_stop _ _ _ _ _ (by rcases hc with h | h; exact Or.inl h; exact Or.inr ⟨h, rfl⟩)]
    simp
  rw [hgo]
  simp only
  rw [if_neg (by simp), List.take_left', unesc_plain _ hu.plain]
  rfl

theorem dest_sharp (url l : List UInt8) (hu : Letters url) : dest (60 :: (url ++ 32 :: url ++ 62 :: l)) = (url ++ 32 :: url, 2 * url.length + 3, true) := by
  unfold dest
  rw [if_pos (by simp)]
  unfold angled
  have hs : scanTo 62 (fun c => c == 60 || c == 10) (60 :: (url ++ 32 :: url ++ 62 :: l)).length (url ++ 32 :: url ++ 62 :: l) 1 = some (2 * url.length + 2) := by
    have hp : ∀ b ∈ url ++ 32 :: url, b ≠ 92 ∧ b ≠ 62 ∧ (b == 60 || b == 10) = false ∧ b ≠ 0 := by
      intro b hb
      have hb' : b = 32 ∨ (97 ≤ b.toNat ∧ b.toNat ≤ 122) := by
        rcases List.mem_append.1 hb with h | h
        · exact Or.inr (hu b h)
        · rcases List.mem_cons.1 h with h | h
          · exact Or.inl h
          · exact Or.inr (hu b h)
      rcases hb' with rfl | hb'
      · decide
      · refine ⟨ne_of_toNat (by simp; omega), ne_of_toNat (by simp; omega), ?_, ne_of_toNat (by simp; omega)⟩
        simp only [Bool.or_eq_false_iff, beq_eq_false_iff_ne]
        exact ⟨ne_of_toNat (by simp; omega), ne_of_toNat (by simp; omega)⟩
    rw [show (60 :: (url ++ 32 :: url ++ 62 :: l)).length = (url ++ 32 :: url).length + ((l.length + 1) + 1) by simp; omega]
    rw [scan_plain 62 _ (url ++ 32 :: url) _ _ (62 :: l) hp, scan_hit _ _ _ _ _ (by decide)]
    congr 1
    simp; omega
  rw [show (60 :: (url ++ 32 :: url ++ 62 :: l)).drop 1 = url ++ 32 :: url ++ 62 :: l from rfl, hs]
  simp only
  have ht : ((60 :: (url ++ 32 :: url ++ 62 :: l)).take (2 * url.length + 2)).drop 1 = url ++ 32 :: url := by
    rw [List.take_cons (by omega)]
    simp only [List.drop_succ_cons, List.drop_zero]
    exact List.take_left' (by simp; omega)
  rw [ht, unesc_plain]
  · intro b hb
    rcases List.mem_append.1 hb with h | h
    · exact hu.plain b h
    · rcases List.mem_cons.1 h with h | h
      · subst h; decide
      · exact hu.plain b h

/-! ### Encode -/
theorem encB_ok : ∀ c : UInt8, (encB c).all okUrl = true := fun c => allB (p := fun c => (encB c).all okUrl = true) (by unfold AllB; decide +kernel) c
theorem encB_len1 : ∀ c : UInt8, 1 ≤ (encB c).length := fun c => allB (p := fun c => 1 ≤ (encB c).length) (by unfold AllB; decide +kernel) c
theorem encode_ok (l : List UInt8) : ∀ b ∈ encode l, okUrl b = true := by
  intro b hb
  obtain ⟨c, _, h⟩ := List.mem_flatMap.1 hb
  exact List.all_eq_true.1 (encB_ok c) b h
theorem encode_fix : ∀ (l : List UInt8), (∀ b ∈ l, okUrl b = true) → encode l = l := by
  intro l
  induction l with
  | nil => intro _; rfl
  | cons c l ih =>
    intro h
    unfold encode at *
    rw [List.flatMap_cons, ih (fun b hb => h b (List.mem_cons_of_mem _ hb))]
    unfold encB
    rw [if_pos (h c (List.mem_cons_self ..))]
    rfl
theorem encode_twice (l : List UInt8) : encode (encode l) = encode l := encode_fix _ (encode_ok l)
theorem encode_long (l : List UInt8) : l.length ≤ (encode l).length := by
  unfold encode
  induction l with
  | nil => simp
  | cons c l ih => rw [List.flatMap_cons, List.length_append, List.length_cons]; have := encB_len1 c; omega
/-- The test of the law on a byte. -/
def badUrl (b : UInt8) : Bool := b ≤ 32 || 127 ≤ b || b == 34 || b == 60 || b == 62 || b == 92 || b == 96
theorem okUrl_good (b : UInt8) : okUrl b = true → badUrl b = false :=
  allB (p := fun b => okUrl b = true → badUrl b = false) (by unfold AllB; decide +kernel) b
theorem letters_ok {l : List UInt8} (h : Letters l) : ∀ b ∈ l, okUrl b = true := fun b hb => by
  have := h b hb
  unfold okUrl isLetter
  have h1 : (97 : UInt8) ≤ b := by rw [UInt8.le_iff_toNat_le]; simpa using this.1
  have h2 : b ≤ 122 := by rw [UInt8.le_iff_toNat_le]; simpa using this.2
  simp [h1, h2]
theorem encode_letters (l : List UInt8) (h : Letters l) : encode l = l := encode_fix l (letters_ok h)

end Go.Proofs.YtmllkffdejojbaaDoor
