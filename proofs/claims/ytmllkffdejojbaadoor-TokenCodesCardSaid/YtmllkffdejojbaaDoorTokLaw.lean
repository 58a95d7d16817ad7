/-
  What token's readers make of plain text: plain facts, no program in sight.
-/
import Derived.Test.YtmllkffdejojbaaDoorTokLe
import Derived.Test.YtmllkffdejojbaaDoorDefLaw
import Derived.Test.YtmllkffdejojbaaDoorIdxAny
namespace Go.Proofs.YtmllkffdejojbaaDoor
open Go.RowKit
set_option maxRecDepth 100000
set_option linter.unusedVariables false
set_option linter.unusedSimpArgs false

theorem among_run (set : List UInt8) : ∀ (a b : List UInt8), (∀ x ∈ a, set.contains x = true) → amongL (a ++ b) set = a.length + amongL b set
  | [], b, _ => by simp
  | c :: a, b, h => by
    rw [List.cons_append, among_cons, if_pos (h c (List.mem_cons_self ..)), among_run set a b (fun x hx => h x (List.mem_cons_of_mem _ hx)), List.length_cons]
    omega
theorem among_stop (set : List UInt8) (c : UInt8) (b : List UInt8) (h : set.contains c = false) : amongL (c :: b) set = 0 := by rw [among_cons, h]; rfl
theorem among_to (set a : List UInt8) (c : UInt8) (b : List UInt8) (ha : ∀ x ∈ a, set.contains x = true) (hc : set.contains c = false) : amongL (a ++ c :: b) set = a.length := by
  rw [among_run set a _ ha, among_stop set c b hc]; omega
theorem among_all (set a : List UInt8) (ha : ∀ x ∈ a, set.contains x = true) : amongL a set = a.length := by
  have := among_run set a [] ha
  rw [List.append_nil, among_nil] at this
  omega
theorem rep_in (set : List UInt8) (x : UInt8) (n : Nat) (h : set.contains x = true) : ∀ y ∈ List.replicate n x, set.contains y = true := fun y hy => by
  rw [(List.mem_replicate.1 hy).2]; exact h

theorem all_nil (f : Nat) : allL f [] = [] := by cases f <;> simp [allL]
theorem all_cons (f : Nat) (s : List UInt8) (t : Tok) (n : Nat) (hs : s ≠ []) (h : nextL s = (t, n)) : allL (f + 1) s = t :: allL f (s.drop n) := by
  rw [allL, if_neg hs, h]

/-! ### TokenRuns -/
theorem next_run (x : UInt8) (n : Nat) (r : List UInt8) (hx : x = 42 ∨ x = 95) (hn : 1 ≤ n) (hr : r = [] ∨ ∃ c b, r = c :: b ∧ ([x] : List UInt8).contains c = false) : nextL (List.replicate n x ++ r) = (.run x n, n) := by
  obtain ⟨m, rfl⟩ : ∃ m, n = m + 1 := ⟨n - 1, by omega⟩
  have ha : amongL (List.replicate (m + 1) x ++ r) [x] = m + 1 := by
    rcases hr with rfl | ⟨c, b, rfl, hc⟩
    · rw [List.append_nil, among_all _ _ (rep_in [x] x _ (by simp)), List.length_replicate]
    · rw [among_to _ _ _ _ (rep_in [x] x _ (by simp)) hc, List.length_replicate]
  have hb : beginsL (List.replicate (m + 1) x ++ r) = some (.run x (m + 1), m + 1) := by
    rw [List.replicate_succ, List.cons_append] at ha ⊢
    rcases hx with rfl | rfl
    · show some (Tok.run 42 (amongL _ [42]), amongL _ [42]) = _
      rw [ha]
    · show some (Tok.run 95 (amongL _ [95]), amongL _ [95]) = _
      rw [ha]
  unfold nextL
  rw [hb]
theorem all_runs (f a b : Nat) (x y : UInt8) (hxy : (x = 42 ∧ y = 95) ∨ (x = 95 ∧ y = 42)) (ha : 1 ≤ a) (hb : 1 ≤ b) : allL (f + 2) (List.replicate a x ++ List.replicate b y) = [.run x a, .run y b] := by
  obtain ⟨k, rfl⟩ : ∃ k, b = k + 1 := ⟨b - 1, by omega⟩
  have hr : List.replicate (k + 1) y = y :: List.replicate k y := List.replicate_succ
  rw [all_cons (f + 1) _ _ _ (by rw [hr]; simp) (next_run x a (List.replicate (k + 1) y) (by rcases hxy with h | h; exact Or.inl h.1; exact Or.inr h.1) ha (Or.inr ⟨y, _, hr, by rcases hxy with ⟨rfl, rfl⟩ | ⟨rfl, rfl⟩ <;> decide⟩))]
  rw [List.drop_left' (by simp)]
  have h2 := next_run y (k + 1) [] (by rcases hxy with h | h; exact Or.inr h.2; exact Or.inl h.2) hb (Or.inl rfl)
  rw [List.append_nil] at h2
  rw [all_cons f _ _ _ (by rw [hr]; simp) h2, List.drop_eq_nil_of_le (by simp), all_nil]

/-! ### words -/
theorem next_none (s : List UInt8) (h : beginsL s = none) : nextL s = (.word (s.take (plainTo s)), plainTo s) := by
  unfold nextL; rw [h]
theorem begins_plain (c : UInt8) (r : List UInt8) (h : specialL.contains c = false) : beginsL (c :: r) = none := by
  have n : ∀ k : UInt8, specialL.contains k = true → c ≠ k := fun k hk e => by rw [e, hk] at h; cases h
  rw [beginsL, if_neg (n 0 rfl), if_neg (n 92 rfl), if_neg (n 38 rfl), if_neg (n 96 rfl), if_neg (n 60 rfl), if_neg (by rintro (e | e); exact n 42 rfl e; exact n 95 rfl e), if_neg (n 33 rfl), if_neg (by rintro (e | e); exact n 91 rfl e; exact n 93 rfl e), if_neg (by rintro (e | e); exact n 32 rfl e; exact n 10 rfl e)]
theorem indexAny_none (chars : List UInt8) : ∀ (l : List UInt8), (∀ b ∈ l, chars.contains b = false) → Lib.indexAny l chars = -1
  | [], _ => rfl
  | b :: l, h => by
    show (if chars.contains b then (0 : Int) else if Lib.indexAny l chars == -1 then -1 else Lib.indexAny l chars + 1) = -1
    rw [h b (List.mem_cons_self ..), indexAny_none chars l (fun x hx => h x (List.mem_cons_of_mem _ hx))]
    rfl
theorem plain_all (c : UInt8) (r : List UInt8) (h : ∀ b ∈ r, specialL.contains b = false) : plainTo (c :: r) = (c :: r).length := by
  unfold plainTo
  rw [List.drop_succ_cons, List.drop_zero, indexAny_none specialL r h, if_neg (by omega)]
theorem plain_hit (c d : UInt8) (a r : List UInt8) (h : ∀ b ∈ a, specialL.contains b = false) (hd : specialL.contains d = true) : plainTo (c :: (a ++ d :: r)) = 1 + a.length := by
  unfold plainTo
  rw [List.drop_succ_cons, List.drop_zero, indexAny_skip specialL a _ h, indexAny_hit specialL d r hd]
  simp
theorem letter_plain {c : UInt8} (h : 97 ≤ c.toNat ∧ c.toNat ≤ 122) : specialL.contains c = false :=
  allB (p := fun c => 97 ≤ c.toNat ∧ c.toNat ≤ 122 → specialL.contains c = false) (by unfold AllB; decide +kernel) c h
theorem letter_in {set : List UInt8} (hs : AllB fun c => 97 ≤ c.toNat ∧ c.toNat ≤ 122 → set.contains c = true) {l : List UInt8} (h : Letters l) : ∀ x ∈ l, set.contains x = true := fun x hx => allB (p := fun c => 97 ≤ c.toNat ∧ c.toNat ≤ 122 → set.contains c = true) hs x (h x hx)

/-! ### TokenBreaks -/
theorem behindT_blanks (c : UInt8) (m : Nat) (d : UInt8) (r : List UInt8) (hd : ([32, 9] : List UInt8).contains d = false) : behindT (c :: (List.replicate m 32 ++ d :: r)) = 1 + m := by
  unfold behindT
  rw [List.drop_succ_cons, List.drop_zero, among_to [32, 9] _ _ _ (rep_in _ _ _ (by decide)) hd, List.length_replicate]
theorem next_b : nextL [98] = (.word [98], 1) := by decide +kernel
theorem next_break (n m : Nat) : nextL (List.replicate n 32 ++ 10 :: (List.replicate m 32 ++ [98])) = (.brk (decide (2 ≤ n)), n + (1 + m)) := by
  have ha : amongL (List.replicate n 32 ++ 10 :: (List.replicate m 32 ++ [98])) [32] = n := by
    rw [among_to [32] _ _ _ (rep_in _ _ _ (by decide)) (by decide), List.length_replicate]
  have hd : (List.replicate n (32 : UInt8) ++ 10 :: (List.replicate m 32 ++ [98])).drop n = 10 :: (List.replicate m 32 ++ [98]) := List.drop_left' (by simp)
  have hb : beginsL (List.replicate n 32 ++ 10 :: (List.replicate m 32 ++ [98])) = some (.brk (decide (2 ≤ n)), n + (1 + m)) := by
    obtain ⟨c, r, hcr, hc⟩ : ∃ (c : UInt8) (r : List UInt8), List.replicate n 32 ++ 10 :: (List.replicate m 32 ++ [98]) = c :: r ∧ (c = 32 ∨ c = 10) := by
      cases n with
      | zero => exact ⟨10, _, rfl, Or.inr rfl⟩
      | succ n => exact ⟨32, _, by rw [List.replicate_succ, List.cons_append], Or.inl rfl⟩
    rw [hcr] at ha hd ⊢
    have hbl : beginsL (c :: r) = (if ((c :: r).drop (amongL (c :: r) [32])).head? = some 10 then some (.brk (decide (2 ≤ amongL (c :: r) [32])), amongL (c :: r) [32] + behindT ((c :: r).drop (amongL (c :: r) [32])))
      else some (.word ((c :: r).take (amongL (c :: r) [32])), amongL (c :: r) [32])) := by
      rcases hc with rfl | rfl <;> rfl
    rw [hbl, ha, hd, List.head?_cons, if_pos rfl, behindT_blanks 10 m 98 [] (by decide)]
  unfold nextL
  rw [hb]
theorem next_slash (m : Nat) : nextL (92 :: 10 :: (List.replicate m 32 ++ [98])) = (.brk true, 1 + (1 + m)) := by
  have hb : beginsL (92 :: 10 :: (List.replicate m 32 ++ [98])) = some (.brk true, 1 + (1 + m)) := by
    rw [beginsL, if_neg (by decide), if_pos rfl]
    show (if asciiP 10 = true then some (Tok.word [10], 2) else if (10 : UInt8) = 10 then some (Tok.brk true, 1 + behindT (10 :: (List.replicate m 32 ++ [98]))) else none) = _
    rw [if_neg (by decide), if_pos rfl, behindT_blanks 10 m 98 [] (by decide)]
  unfold nextL
  rw [hb]
theorem next_a (d : UInt8) (r : List UInt8) (hd : specialL.contains d = true) : nextL (97 :: d :: r) = (.word [97], 1) := by
  rw [next_none _ (begins_plain 97 _ (by decide)), show (97 :: d :: r) = 97 :: ([] ++ d :: r) from rfl, plain_hit 97 d [] r (fun b hb => by cases hb) hd]
  rfl
/-- The text of the law, behind its letter. -/
def breakTail (slash : Bool) (n m : Nat) : List UInt8 := if slash then 92 :: 10 :: (List.replicate m 32 ++ [98]) else List.replicate n 32 ++ 10 :: (List.replicate m 32 ++ [98])
theorem all_breaks (f : Nat) (slash : Bool) (n m : Nat) : allL (f + 3) (97 :: breakTail slash n m) = [.word [97], .brk (slash || decide (2 ≤ n)), .word [98]] := by
  obtain ⟨d, r, hdr, hd⟩ : ∃ d r, breakTail slash n m = d :: r ∧ specialL.contains d = true := by
    unfold breakTail
    cases slash
    · cases n with
      | zero => exact ⟨10, _, rfl, by decide⟩
      | succ n => exact ⟨32, _, by rw [if_neg (by simp), List.replicate_succ, List.cons_append], by decide⟩
    · exact ⟨92, _, rfl, by decide⟩
  have h2 : nextL (breakTail slash n m) = (.brk (slash || decide (2 ≤ n)), (breakTail slash n m).length - 1) := by
    unfold breakTail
    cases slash
    · simp only [Bool.false_eq_true, if_false, Bool.false_or]
      rw [next_break]
      congr 1
      simp; omega
    · simp only [if_true, Bool.true_or]
      rw [next_slash]
      congr 1
      simp; omega
  have h3 : (breakTail slash n m).drop ((breakTail slash n m).length - 1) = [98] := by
    obtain ⟨x, hx⟩ : ∃ x : List UInt8, breakTail slash n m = x ++ [98] := by
      unfold breakTail
      cases slash
      · exact ⟨List.replicate n (32 : UInt8) ++ 10 :: List.replicate m 32, by simp⟩
      · exact ⟨92 :: 10 :: List.replicate m 32, by simp⟩
    rw [hx, List.drop_left' (by simp)]
  rw [all_cons (f + 2) _ (.word [97]) 1 (by simp) (by rw [hdr]; exact next_a d r hd), List.drop_succ_cons, List.drop_zero]
  rw [all_cons (f + 1) _ _ _ (by rw [hdr]; simp) h2, h3, all_cons f _ _ _ (by simp) next_b]
  rw [List.drop_eq_nil_of_le (by simp), all_nil]

/-! ### TokenSigns -/
theorem next_sign (c : UInt8) (h : asciiP c = true) : nextL [92, c] = (.word [c], 2) := by
  have hb : beginsL [92, c] = some (.word [c], 2) := by
    rw [beginsL, if_neg (by decide), if_pos rfl]
    show (if asciiP c = true then some (Tok.word [c], 2) else _) = _
    rw [if_pos h]
  unfold nextL
  rw [hb]
theorem next_nosign (c : UInt8) (h : asciiP c = false) (h10 : c ≠ 10) : ∃ r, (nextL [92, c]).1 = .word (92 :: r) ∧ r.length ≤ 1 := by
  have hb : beginsL [92, c] = none := by
    rw [beginsL, if_neg (by decide), if_pos rfl]
    show (if asciiP c = true then some (Tok.word [c], 2) else if c = 10 then _ else none) = _
    rw [if_neg (by rw [h]; simp), if_neg h10]
  rw [next_none _ hb]
  cases hs : specialL.contains c
  · rw [plain_all 92 [c] (fun b hb => by rw [List.mem_singleton.1 hb]; exact hs)]
    exact ⟨[c], rfl, by simp⟩
  · rw [show ([92, c] : List UInt8) = 92 :: ([] ++ c :: []) from rfl, plain_hit 92 c [] [] (fun b hb => by cases hb) hs]
    exact ⟨[], rfl, by simp⟩

end Go.Proofs.YtmllkffdejojbaaDoor
