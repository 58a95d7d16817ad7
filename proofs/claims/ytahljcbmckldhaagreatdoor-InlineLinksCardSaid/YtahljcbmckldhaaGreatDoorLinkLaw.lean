/-
  InlineLinks: a text of letters, stars, blanks and code is the same nodes between brackets as alone. Plain facts.
-/
import Derived.Test.YtahljcbmckldhaaGreatDoorSpanLaw
namespace Go.Proofs.YtahljcbmckldhaaGreatDoor
open Go.RowKit
set_option maxRecDepth 10000
set_option linter.unusedVariables false
set_option linter.unusedSimpArgs false

/-- The bytes of such a text. -/
def inA (c : UInt8) : Bool := (97 ≤ c && c ≤ 101) || c == 42 || c == 32 || c == 96
theorem inA_facts : ∀ c : UInt8, inA c = true → (c = 42 ∨ c = 32 ∨ c = 96 ∨ specialL.contains c = false) ∧ c.toNat < 128 ∧ c ≠ 0 ∧ c ≠ 10 ∧ c ≠ 93 :=
  fun c => allB (p := fun c => inA c = true → (c = 42 ∨ c = 32 ∨ c = 96 ∨ specialL.contains c = false) ∧ c.toNat < 128 ∧ c ≠ 0 ∧ c ≠ 10 ∧ c ≠ 93) (by unfold AllB; decide +kernel) c
def AllA (l : List UInt8) : Prop := ∀ c ∈ l, inA c = true
/-- What stands behind: a bracket, and no code. -/
def Tail (c : List UInt8) : Prop := (∃ r, c = 93 :: r) ∧ (96 : UInt8) ∉ c

theorem among_tail (set c : List UInt8) (hc : ∀ d r, c = d :: r → set.contains d = false) : ∀ b : List UInt8, amongL (b ++ c) set = amongL b set
  | [] => by
    cases c with
    | nil => rfl
    | cons d r => rw [List.nil_append, among_stop set d r (hc d r rfl)]; rfl
  | x :: b => by
    rw [List.cons_append, among_cons, among_cons, among_tail set c hc b]
theorem Tail.among {c : List UInt8} (h : Tail c) (set : List UInt8) (hs : set.contains 93 = false) (b : List UInt8) : amongL (b ++ c) set = amongL b set :=
  among_tail set c (fun d r e => by obtain ⟨⟨r2, rfl⟩, _⟩ := h; injection e with e1 _; rw [← e1]; exact hs) b
theorem among_split (x : UInt8) : ∀ (s : List UInt8), ∃ r, s = List.replicate (amongL s [x]) x ++ r ∧ r.head? ≠ some x
  | [] => ⟨[], rfl, by simp⟩
  | c :: s => by
    obtain ⟨r, h1, h2⟩ := among_split x s
    by_cases hc : c = x
    · refine ⟨r, ?_, h2⟩
      rw [among_cons, if_pos (by simp [hc]), List.replicate_succ, List.cons_append, ← h1, hc]
    · refine ⟨c :: s, ?_, by simpa using hc⟩
      rw [among_cons, if_neg (by simp [hc])]
      rfl
theorem among_drop (x : UInt8) (s : List UInt8) : (s.drop (amongL s [x])).head? ≠ some x := by
  obtain ⟨r, h1, h2⟩ := among_split x s
  have : s.drop (amongL s [x]) = r := by
    conv => lhs; rw [h1]
    have hl : amongL (List.replicate (amongL s [x]) x ++ r) [x] = amongL s [x] := by rw [← h1]
    rw [hl, List.drop_left' (by simp)]
  rw [this]; exact h2
theorem among_takeR (x : UInt8) (s : List UInt8) : s.take (amongL s [x]) = List.replicate (amongL s [x]) x := by
  obtain ⟨r, h1, h2⟩ := among_split x s
  have hl : amongL (List.replicate (amongL s [x]) x ++ r) [x] = amongL s [x] := by rw [← h1]
  conv => lhs; rw [h1]
  rw [hl, List.take_left' (by simp)]

/-! ### code -/
theorem index_behind (x : UInt8) : ∀ (b c : List UInt8), x ∉ c → Lib.indexByte (b ++ c) x = Lib.indexByte b x
  | [], c, h => by rw [List.nil_append, indexByte_miss x c h]; rfl
  | y :: b, c, h => by
    rw [List.cons_append]
    unfold Lib.indexByte
    rw [index_behind x b c h]
theorem index_found (x : UInt8) : ∀ (b : List UInt8), ¬ Lib.indexByte b x < 0 → (Lib.indexByte b x).toNat < b.length ∧ (b.drop (Lib.indexByte b x).toNat).head? = some x
  | [], h => absurd (show Lib.indexByte [] x < 0 by rw [show Lib.indexByte [] x = -1 from rfl]; decide) h
  | y :: b, h => by
    have ih := index_found x b
    unfold Lib.indexByte at h ⊢
    by_cases hy : y = x
    · rw [if_pos (by simpa using hy)] at h ⊢
      simp [hy]
    · rw [if_neg (by simpa using hy)] at h ⊢
      by_cases hm : (Lib.indexByte b x == -1) = true
      · rw [if_pos hm] at h; exact absurd (by decide) h
      · rw [if_neg hm] at h ⊢
        have h0 : ¬ Lib.indexByte b x < 0 := by
          intro hneg
          have hge : -1 ≤ Lib.indexByte b x := by rw [← Lib.index_one]; exact Lib.index_ge _ _
          exact hm (by simp; omega)
        obtain ⟨i1, i2⟩ := ih h0
        have e : (Lib.indexByte b x + 1).toNat = (Lib.indexByte b x).toNat + 1 := by omega
        rw [e, List.length_cons, List.drop_succ_cons]
        exact ⟨by omega, i2⟩
theorem among_pos {x : UInt8} {s : List UInt8} (h : s.head? = some x) : 1 ≤ amongL s [x] := by
  cases s with
  | nil => cases h
  | cons y s =>
    simp at h
    rw [among_cons, if_pos (by simp [h])]; omega
theorem code_tail (b c : List UInt8) (hc : Tail c) (n : Nat) (hn : n ≤ b.length) : ∀ (f g i : Nat), i ≤ b.length → b.length < i + f → b.length < i + g → codeGo f (b ++ c) n i = codeGo g b n i
  | 0, g, i, h1, h2, _ => absurd h2 (by omega)
  | f + 1, 0, i, h1, _, h3 => absurd h3 (by omega)
  | f + 1, g + 1, i, h1, h2, h3 => by
    rw [codeGo, codeGo, List.drop_append_of_le_length h1, index_behind 96 _ c hc.2, List.take_append_of_le_length hn]
    split
    · rfl
    · rename_i hneg
      obtain ⟨j1, j2⟩ := index_found 96 _ hneg
      generalize hj : (Lib.indexByte (b.drop i) 96).toNat = j at j1 j2 ⊢
      rw [List.length_drop] at j1
      rw [List.drop_drop] at j2
      have hd : (b ++ c).drop (i + j) = b.drop (i + j) ++ c := List.drop_append_of_le_length (by omega)
      have ht : (b ++ c).take (i + j) = b.take (i + j) := List.take_append_of_le_length (by omega)
      rw [hd, ht, hc.among [96] (by decide)]
      split
      · rfl
      · have hle := among_le (b.drop (i + j)) [96]
        have hp := among_pos j2
        rw [List.length_drop] at hle
        exact code_tail b c hc n hn f g _ (by omega) (by omega) (by omega)
theorem code_end (b : List UInt8) (n : Nat) : ∀ (f i : Nat), codeGo f b n i = (.word (b.take n), n) ∨ ∃ l j, codeGo f b n i = (.code l, j + n) ∧ amongL (b.drop j) [96] = n
  | 0, i => Or.inl rfl
  | f + 1, i => by
    rw [codeGo]
    split
    · exact Or.inl rfl
    · split
      · rename_i h; exact Or.inr ⟨_, _, rfl, h⟩
      · exact code_end b n f _

/-! ### a token within -/
def Mid (k : Tok) : Prop := (∃ l, k = .word l) ∨ (∃ l, k = .code l)
/-- No row goes over a place. -/
def Seam (s : List UInt8) (i : Nat) : Prop := (s.drop i).head? = some 42 → (s.take i).getLast? ≠ some 42
theorem seam_all {b : List UInt8} {n : Nat} (h : ∀ x ∈ b.take n, x ≠ 42) : (b.take n).getLast? ≠ some 42 := fun e => h 42 (List.mem_of_getLast? e) rfl
theorem plain_tailed (x : UInt8) (b c : List UInt8) (hc : Tail c) : plainTo (x :: (b ++ c)) = plainTo (x :: b) ∧ (∀ y ∈ b.take (plainTo (x :: b) - 1), specialL.contains y = false) ∧ 1 ≤ plainTo (x :: b) ∧ plainTo (x :: b) ≤ (x :: b).length := by
  obtain ⟨⟨r, rfl⟩, _⟩ := hc
  have key : ∀ b : List UInt8, (0 ≤ Lib.indexAny b specialL ∧ Lib.indexAny (b ++ 93 :: r) specialL = Lib.indexAny b specialL ∧ (∀ y ∈ b.take (Lib.indexAny b specialL).toNat, specialL.contains y = false) ∧ (Lib.indexAny b specialL).toNat < b.length)
      ∨ (Lib.indexAny b specialL = -1 ∧ Lib.indexAny (b ++ 93 :: r) specialL = (b.length : Int) ∧ ∀ y ∈ b, specialL.contains y = false) := by
    intro b
    induction b with
    | nil => exact Or.inr ⟨rfl, by rw [List.nil_append, indexAny_hit specialL 93 r (by decide)]; rfl, fun y hy => by cases hy⟩
    | cons y b ih =>
      cases hy : specialL.contains y
      · have e1 : Lib.indexAny (y :: b) specialL = if Lib.indexAny b specialL == -1 then -1 else Lib.indexAny b specialL + 1 := by
          show (if specialL.contains y then (0 : Int) else _) = _
          rw [hy]; rfl
        have e2 : Lib.indexAny (y :: (b ++ 93 :: r)) specialL = if Lib.indexAny (b ++ 93 :: r) specialL == -1 then -1 else Lib.indexAny (b ++ 93 :: r) specialL + 1 := by
          show (if specialL.contains y then (0 : Int) else _) = _
          rw [hy]; rfl
        rw [List.cons_append, e1, e2]
        rcases ih with ⟨i1, i2, i3, i4⟩ | ⟨i1, i2, i3⟩
        · left
          rw [i2, if_neg (by simp; omega)]
          have e : (Lib.indexAny b specialL + 1).toNat = (Lib.indexAny b specialL).toNat + 1 := by omega
          refine ⟨by omega, rfl, ?_, by rw [e, List.length_cons]; omega⟩
          rw [e, List.take_succ_cons]
          intro z hz
          rcases List.mem_cons.1 hz with rfl | hz
          · exact hy
          · exact i3 z hz
        · right
          rw [i1, i2, if_pos (by decide), if_neg (by simp)]
          refine ⟨rfl, by simp, fun z hz => ?_⟩
          rcases List.mem_cons.1 hz with rfl | hz
          · exact hy
          · exact i3 z hz
      · left
        have e1 : Lib.indexAny (y :: b) specialL = 0 := indexAny_hit specialL y b hy
        have e2 : Lib.indexAny (y :: (b ++ 93 :: r)) specialL = 0 := indexAny_hit specialL y _ hy
        rw [List.cons_append, e1, e2]
        exact ⟨Int.le_refl _, rfl, fun z hz => by simp at hz, by simp⟩
  unfold plainTo
  simp only [List.drop_succ_cons, List.drop_zero]
  rcases key b with ⟨i1, i2, i3, i4⟩ | ⟨i1, i2, i3⟩
  · simp only [i2, if_pos i1]
    refine ⟨trivial, ?_, by omega, by rw [List.length_cons]; omega⟩
    rw [show 1 + (Lib.indexAny b specialL).toNat - 1 = (Lib.indexAny b specialL).toNat by omega]
    exact i3
  · rw [i1, i2, if_pos (by omega), if_neg (by omega), Int.toNat_natCast, List.length_cons]
    refine ⟨by omega, ?_, by omega, Nat.le_refl _⟩
    intro y hy
    exact i3 y (List.mem_of_mem_take hy)
/-- The token that such a text begins with, between brackets and alone. -/
theorem next_in (b c : List UInt8) (hb : b ≠ []) (ha : AllA b) (hc : Tail c) : ∃ k n, nextL (b ++ c) = (k, n) ∧ nextL b = (k, n) ∧ 1 ≤ n ∧ n ≤ b.length ∧ Seam b n ∧ (Mid k ∨ (k = .run 42 n ∧ ∃ r, b = List.replicate n 42 ++ r ∧ r.head? ≠ some 42)) := by
  cases b with
  | nil => exact absurd rfl hb
  | cons x b =>
    obtain ⟨hx, hx128, hx0, hx10, hx93⟩ := inA_facts x (ha x (List.mem_cons_self ..))
    have hb2 : ∀ y ∈ b, inA y = true := fun y hy => ha y (List.mem_cons_of_mem _ hy)
    have sm : ∀ k n s, beginsL s = some (k, n) → nextL s = (k, n) := fun k n s h => by unfold nextL; rw [h]
    rcases hx with rfl | rfl | rfl | hx
    · have e := hc.among [42] (by decide) (42 :: b)
      rw [List.cons_append] at e
      have e1 : beginsL (42 :: (b ++ c)) = some (.run 42 (amongL (42 :: b) [42]), amongL (42 :: b) [42]) := by
        show some (Tok.run 42 (amongL _ [42]), amongL _ [42]) = _
        rw [e]
      have hp := among_pos (x := 42) (s := 42 :: b) rfl
      obtain ⟨r, h1, h2⟩ := among_split 42 (42 :: b)
      exact ⟨_, _, sm _ _ _ e1, sm _ _ _ rfl, hp, among_le _ _, fun h => absurd h (among_drop 42 _), Or.inr ⟨rfl, r, h1, h2⟩⟩
    · have e := hc.among [32] (by decide) (32 :: b)
      rw [List.cons_append] at e
      have hle := among_le (32 :: b) [32]
      have hp := among_pos (x := 32) (s := 32 :: b) rfl
      have htk := among_takeR 32 (32 :: b)
      have hno : ∀ l : List UInt8, (∀ y ∈ l, y ≠ 10) → l.head? ≠ some 10 := fun l h e => h 10 (List.mem_of_mem_head? e) rfl
      have hb10 : ∀ y ∈ 32 :: b, y ≠ 10 := fun y hy => (inA_facts y (ha y hy)).2.2.2.1
      have bl : ∀ q : List UInt8, beginsL (32 :: q) = (if ((32 :: q).drop (amongL (32 :: q) [32])).head? = some 10 then some (.brk (decide (2 ≤ amongL (32 :: q) [32])), amongL (32 :: q) [32] + behindT ((32 :: q).drop (amongL (32 :: q) [32])))
        else some (.word ((32 :: q).take (amongL (32 :: q) [32])), amongL (32 :: q) [32])) := fun q => rfl
      generalize hk : amongL (32 :: b) [32] = k at e hle hp htk
      have e1 : beginsL (32 :: (b ++ c)) = some (.word (List.replicate k 32), k) := by
        rw [bl, e, ← List.cons_append, List.drop_append_of_le_length hle, List.take_append_of_le_length hle, htk, if_neg]
        cases hq : (32 :: b).drop k with
        | nil => obtain ⟨⟨r, rfl⟩, _⟩ := hc; simp
        | cons y q =>
          have : y ∈ 32 :: b := List.mem_of_mem_drop (by rw [hq]; exact List.mem_cons_self ..)
          simpa using hb10 y this
      have e2 : beginsL (32 :: b) = some (.word (List.replicate k 32), k) := by
        rw [bl, hk, htk, if_neg (hno _ fun y hy => hb10 y (List.mem_of_mem_drop hy))]
      refine ⟨_, _, sm _ _ _ e1, sm _ _ _ e2, hp, hle, fun _ => seam_all ?_, Or.inl (Or.inl ⟨_, rfl⟩)⟩
      rw [htk]
      intro y hy
      rw [(List.mem_replicate.1 hy).2]; decide
    · have e := hc.among [96] (by decide) (96 :: b)
      have hle := among_le (96 :: b) [96]
      have hp := among_pos (x := 96) (s := 96 :: b) rfl
      have hcl := code_le 96 b rfl
      have htk := among_takeR 96 (96 :: b)
      have e1 : codeL ((96 :: b) ++ c) = codeL (96 :: b) := by
        unfold codeL
        rw [e]
        exact code_tail (96 :: b) c hc _ hle _ _ _ hle (by simp; omega) (by omega)
      have hend := code_end (96 :: b) (amongL (96 :: b) [96]) ((96 :: b).length + 1) (amongL (96 :: b) [96])
      change codeL (96 :: b) = _ ∨ (∃ l j, codeL (96 :: b) = _ ∧ _) at hend
      have b1 : beginsL ((96 :: b) ++ c) = some (codeL (96 :: b)) := by rw [← e1]; rfl
      have b2 : beginsL (96 :: b) = some (codeL (96 :: b)) := rfl
      rcases hend with he | ⟨l, j, he, hj⟩
      · rw [he] at b1 b2
        refine ⟨_, _, sm _ _ _ b1, sm _ _ _ b2, hp, hle, fun _ => seam_all ?_, Or.inl (Or.inl ⟨_, rfl⟩)⟩
        rw [htk]
        intro y hy
        rw [(List.mem_replicate.1 hy).2]; decide
      · rw [he] at b1 b2 hcl
        simp only at hcl
        refine ⟨_, _, sm _ _ _ b1, sm _ _ _ b2, hcl.2, hcl.1, fun _ => ?_, Or.inl (Or.inr ⟨_, rfl⟩)⟩
        have ht2 := among_takeR 96 ((96 :: b).drop j)
        rw [hj] at ht2
        rw [List.take_add, ht2]
        obtain ⟨m, hm⟩ : ∃ m, amongL (96 :: b) [96] = m + 1 := ⟨amongL (96 :: b) [96] - 1, by omega⟩
        rw [hm, List.replicate_succ', ← List.append_assoc, List.getLast?_concat]
        simp
    · obtain ⟨p1, p2, p3, p4⟩ := plain_tailed x b c hc
      have n1 := next_none _ (begins_plain x (b ++ c) hx)
      have n2 := next_none _ (begins_plain x b hx)
      rw [p1, ← List.cons_append, List.take_append_of_le_length p4] at n1
      refine ⟨_, _, n1, n2, p3, p4, fun _ => seam_all ?_, Or.inl (Or.inl ⟨_, rfl⟩)⟩
      obtain ⟨m, hm⟩ : ∃ m, plainTo (x :: b) = m + 1 := ⟨plainTo (x :: b) - 1, by omega⟩
      rw [hm] at p2 ⊢
      rw [List.take_succ_cons]
      intro y hy e
      subst e
      rcases List.mem_cons.1 hy with hy | hy
      · rw [← hy] at hx; exact absurd hx (by decide)
      · exact absurd (p2 _ hy) (by decide)

/-! ### what stands around a row -/
def Plain128 (l : List UInt8) : Prop := ∀ c ∈ l, c.toNat < 128 ∧ c ≠ 0
theorem around_go : ∀ (l : List UInt8) (f i x y b a : Nat), l.length ≤ f → Plain128 l →
    aroundGo f l i x y b a = (if i < x ∧ x ≤ i + l.length then (l.getD (x - i - 1) 0).toNat else b, if i ≤ y ∧ y < i + l.length then (l.getD (y - i) 0).toNat else a)
  | [], f, i, x, y, b, a, _, _ => by
    have h1 : ¬ (i < x ∧ x ≤ i + ([] : List UInt8).length) := by simp
    have h2 : ¬ (i ≤ y ∧ y < i + ([] : List UInt8).length) := by simp
    rw [if_neg h1, if_neg h2]
    cases f with
    | zero => rfl
    | succ f => rw [aroundGo, if_pos rfl]
  | c :: l, 0, i, x, y, b, a, h, _ => by simp at h
  | c :: l, f + 1, i, x, y, b, a, h, hp => by
    obtain ⟨h128, h0⟩ := hp c (List.mem_cons_self ..)
    have hc0 : c.toNat ≠ 0 := fun e => h0 (by rw [← UInt8.toNat_inj]; exact e)
    rw [aroundGo, if_neg (by simp), Lib.decodeL_ascii c l h128]
    simp only [List.drop_succ_cons, List.drop_zero]
    rw [around_go l f (i + 1) x y _ _ (by simpa using h) (fun d hd => hp d (List.mem_cons_of_mem _ hd))]
    have hr : runeA c.toNat = c.toNat := by unfold runeA; rw [if_neg hc0]
    rw [hr, List.length_cons]
    congr 1
    · by_cases h1 : i + 1 = x
      · subst h1
        rw [if_neg (by omega), if_pos rfl, if_pos (by omega), show i + 1 - i - 1 = 0 by omega]
        rfl
      · by_cases h2 : i + 1 < x ∧ x ≤ i + 1 + l.length
        · rw [if_pos h2, if_pos (by omega), show x - i - 1 = (x - (i + 1) - 1) + 1 by omega, List.getD_cons_succ]
        · rw [if_neg h2, if_neg h1, if_neg (by omega)]
    · by_cases h1 : i = y
      · subst h1
        rw [if_neg (by omega), if_pos rfl, if_pos (by omega), Nat.sub_self]
        rfl
      · by_cases h2 : i + 1 ≤ y ∧ y < i + 1 + l.length
        · rw [if_pos h2, if_pos (by omega), show y - i = (y - (i + 1)) + 1 by omega, List.getD_cons_succ]
        · rw [if_neg h2, if_neg h1, if_neg (by omega)]
theorem around_ascii (l : List UInt8) (hp : Plain128 l) (x y : Nat) : aroundL l x y = (if 0 < x ∧ x ≤ l.length then (l.getD (x - 1) 0).toNat else 10, if y < l.length then (l.getD y 0).toNat else 10) := by
  unfold aroundL
  rw [around_go l _ 0 x y 10 10 (Nat.le_refl _) hp]
  simp only [Nat.zero_add, Nat.sub_zero, Nat.zero_le, true_and]

theorem letters5 (L : UInt8) (h : 97 ≤ L ∧ L ≤ 101) : (leftL (10 : Nat) L.toNat = leftL (91 : Nat) L.toNat ∧ rightL (10 : Nat) L.toNat = rightL (91 : Nat) L.toNat) ∧ (leftL L.toNat (10 : Nat) = leftL L.toNat (93 : Nat) ∧ rightL L.toNat (10 : Nat) = rightL L.toNat (93 : Nat)) :=
  allB (p := fun L => 97 ≤ L ∧ L ≤ 101 → (leftL (10 : Nat) L.toNat = leftL (91 : Nat) L.toNat ∧ rightL (10 : Nat) L.toNat = rightL (91 : Nat) L.toNat) ∧ (leftL L.toNat (10 : Nat) = leftL L.toNat (93 : Nat) ∧ rightL L.toNat (10 : Nat) = rightL L.toNat (93 : Nat))) (by unfold AllB; decide +kernel) L h
/-- A text whose rows of stars stand beside letters, at its beginning and at its end. -/
structure Sided (s : List UInt8) : Prop where
  all : AllA s
  start : ∀ n r, 1 ≤ n → s = List.replicate n 42 ++ r → r.head? ≠ some 42 → ∃ L q, r = L :: q ∧ 97 ≤ L ∧ L ≤ 101
  fin : ∀ n a, 1 ≤ n → s = a ++ List.replicate n 42 → a.getLast? ≠ some 42 → ∃ L q, a = q ++ [L] ∧ 97 ≤ L ∧ L ≤ 101

/-- The flags of a row, between brackets and alone. -/
theorem flags_same (pre s c : List UInt8) (hs : Sided s) (hc : Tail c) (hcp : Plain128 c) (hpp : Plain128 pre) (hpl : pre.getLast? = some 91) (i n : Nat) (hn : 1 ≤ n) (hin : i + n ≤ s.length) (r : List UInt8) (hr : s.drop i = List.replicate n 42 ++ r) (hr0 : r.head? ≠ some 42) (hseam : Seam s i) :
    opensL 42 (aroundL (pre ++ (s ++ c)) (pre.length + i) (pre.length + i + n)).1 (aroundL (pre ++ (s ++ c)) (pre.length + i) (pre.length + i + n)).2 = opensL 42 (aroundL s i (i + n)).1 (aroundL s i (i + n)).2 ∧
    closesL 42 (aroundL (pre ++ (s ++ c)) (pre.length + i) (pre.length + i + n)).1 (aroundL (pre ++ (s ++ c)) (pre.length + i) (pre.length + i + n)).2 = closesL 42 (aroundL s i (i + n)).1 (aroundL s i (i + n)).2 := by
  have hsp : Plain128 s := fun d hd => ⟨(inA_facts d (hs.all d hd)).2.1, (inA_facts d (hs.all d hd)).2.2.1⟩
  have htp : Plain128 (pre ++ (s ++ c)) := fun d hd => by
    rcases List.mem_append.1 hd with hd | hd
    · exact hpp d hd
    · rcases List.mem_append.1 hd with hd | hd
      · exact hsp d hd
      · exact hcp d hd
  obtain ⟨⟨r2, rfl⟩, _⟩ := hc
  obtain ⟨pq, hpq⟩ : ∃ q, pre = q ++ [91] := ⟨pre.dropLast, by have := List.dropLast_concat_getLast (l := pre) (by rintro rfl; cases hpl); rw [← this] at hpl; rw [List.getLast?_concat] at hpl; rw [← this]; injection hpl with e; rw [e]; simp⟩
  rw [around_ascii s hsp, around_ascii _ htp]
  have hlt : (pre ++ (s ++ 93 :: r2)).length = pre.length + s.length + (r2.length + 1) := by simp; omega
  have hp1 : 1 ≤ pre.length := by rw [hpq]; simp
  -- the byte ahead
  have hB : (if 0 < pre.length + i ∧ pre.length + i ≤ (pre ++ (s ++ 93 :: r2)).length then ((pre ++ (s ++ 93 :: r2)).getD (pre.length + i - 1) 0).toNat else 10) = (if i = 0 then 91 else (s.getD (i - 1) 0).toNat) := by
    rw [if_pos ⟨by omega, by omega⟩]
    by_cases h0 : i = 0
    · rw [if_pos h0, h0, List.getD_eq_getElem?_getD, List.getElem?_append_left (by omega), hpq]
      simp
    · rw [if_neg h0, List.getD_eq_getElem?_getD, List.getElem?_append_right (by omega), List.getElem?_append_left (by omega), show pre.length + i - 1 - pre.length = i - 1 by omega, ← List.getD_eq_getElem?_getD]
  have hA : (if pre.length + i + n < (pre ++ (s ++ 93 :: r2)).length then ((pre ++ (s ++ 93 :: r2)).getD (pre.length + i + n) 0).toNat else 10) = (if i + n < s.length then (s.getD (i + n) 0).toNat else 93) := by
    rw [if_pos (by omega)]
    by_cases h0 : i + n < s.length
    · rw [if_pos h0, List.getD_eq_getElem?_getD, List.getElem?_append_right (by omega), List.getElem?_append_left (by omega), show pre.length + i + n - pre.length = i + n by omega, ← List.getD_eq_getElem?_getD]
    · rw [if_neg h0, List.getD_eq_getElem?_getD, List.getElem?_append_right (by omega), List.getElem?_append_right (by omega), show pre.length + i + n - pre.length - s.length = 0 by omega]
      rfl
  rw [hB, hA]
  have hop : ∀ b a : Int, opensL 42 b a = leftL b a := fun b a => by unfold opensL; rw [if_pos rfl]
  have hcl : ∀ b a : Int, closesL 42 b a = rightL b a := fun b a => by unfold closesL; rw [if_pos rfl]
  simp only [hop, hcl]
  by_cases h0 : i = 0
  · subst h0
    rw [List.drop_zero] at hr
    obtain ⟨L, q, rfl, hL⟩ := hs.start n r hn hr hr0
    have hlen : n < s.length := by rw [hr]; simp
    have hg : s.getD n 0 = L := by rw [hr, List.getD_eq_getElem?_getD, List.getElem?_append_right (by simp)]; simp
    obtain ⟨⟨g1, g2⟩, _⟩ := letters5 L hL
    have e1 : (if (0 : Nat) = 0 then 91 else (s.getD (0 - 1) 0).toNat) = 91 := if_pos rfl
    have e2 : (if 0 + n < s.length then (s.getD (0 + n) 0).toNat else 93) = L.toNat := by rw [if_pos (by omega), Nat.zero_add, hg]
    have e3 : (if 0 < 0 ∧ 0 ≤ s.length then (s.getD (0 - 1) 0).toNat else 10) = 10 := if_neg (by omega)
    have e4 : (if 0 + n < s.length then (s.getD (0 + n) 0).toNat else 10) = L.toNat := by rw [if_pos (by omega), Nat.zero_add, hg]
    rw [e1, e2, e3, e4]
    exact ⟨g1.symm, g2.symm⟩
  · have e1 : (if i = 0 then 91 else (s.getD (i - 1) 0).toNat) = (s.getD (i - 1) 0).toNat := if_neg h0
    have e3 : (if 0 < i ∧ i ≤ s.length then (s.getD (i - 1) 0).toNat else 10) = (s.getD (i - 1) 0).toNat := if_pos ⟨by omega, by omega⟩
    rw [e1, e3]
    by_cases h1 : i + n < s.length
    · have e2 : (if i + n < s.length then (s.getD (i + n) 0).toNat else 93) = (s.getD (i + n) 0).toNat := if_pos h1
      have e4 : (if i + n < s.length then (s.getD (i + n) 0).toNat else 10) = (s.getD (i + n) 0).toNat := if_pos h1
      rw [e2, e4]
      exact ⟨rfl, rfl⟩
    · have hrn : r = [] := by
        have := congrArg List.length hr
        rw [List.length_drop, List.length_append, List.length_replicate] at this
        exact List.eq_nil_of_length_eq_zero (by omega)
      subst hrn
      rw [List.append_nil] at hr
      have hsi : s = s.take i ++ List.replicate n 42 := by rw [← hr, List.take_append_drop]
      obtain ⟨L, q, hq, hL⟩ := hs.fin n (s.take i) hn hsi (hseam (by rw [hr]; obtain ⟨m, rfl⟩ : ∃ m, n = m + 1 := ⟨n - 1, by omega⟩; rfl))
      have hql : q.length + 1 = i := by have := congrArg List.length hq; simp at this; omega
      have hg : s.getD (i - 1) 0 = L := by
        rw [hsi, hq, List.getD_eq_getElem?_getD, List.getElem?_append_left (by simp; omega), List.getElem?_append_right (by omega), show i - 1 - q.length = 0 by omega]
        rfl
      obtain ⟨_, g1, g2⟩ := letters5 L hL
      have e2 : (if i + n < s.length then (s.getD (i + n) 0).toNat else 93) = 93 := if_neg h1
      have e4 : (if i + n < s.length then (s.getD (i + n) 0).toNat else 10) = 10 := if_neg h1
      rw [e2, e4, hg]
      exact ⟨g1.symm, g2.symm⟩

end Go.Proofs.YtahljcbmckldhaaGreatDoor
