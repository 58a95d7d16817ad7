/-
  repair.Fold: folded again it stays; blanks around a text are as none. Plain facts, no program in sight.
-/
import Derived.Test.YtmllkffdejojbaaDoorName
namespace Go.Proofs.YtmllkffdejojbaaDoor
open Go.RowKit
set_option maxRecDepth 100000
set_option linter.unusedVariables false
set_option linter.unusedSimpArgs false

/-! ### what a decoding depends on -/
def isCont (b : UInt8) : Bool := b.toNat / 64 == 2
def conts (l : List UInt8) : List UInt8 := l.takeWhile isCont
theorem conts_cons (b : UInt8) (l : List UInt8) : conts (b :: l) = if isCont b then b :: conts l else [] := by
  unfold conts; rw [List.takeWhile_cons]
theorem conts_nil : conts [] = [] := rfl

theorem decodeN_same (n n' b0 b1 b2 b3 c1 c2 c3 : Nat)
    (h1 : (1 < n ∧ b1 / 64 = 2) ↔ (1 < n' ∧ c1 / 64 = 2)) (e1 : (1 < n ∧ b1 / 64 = 2) → b1 = c1)
    (h2 : (1 < n ∧ b1 / 64 = 2) → ((2 < n ∧ b2 / 64 = 2) ↔ (2 < n' ∧ c2 / 64 = 2))) (e2 : (1 < n ∧ b1 / 64 = 2) → (2 < n ∧ b2 / 64 = 2) → b2 = c2)
    (h3 : (1 < n ∧ b1 / 64 = 2) → (2 < n ∧ b2 / 64 = 2) → ((3 < n ∧ b3 / 64 = 2) ↔ (3 < n' ∧ c3 / 64 = 2))) (e3 : (1 < n ∧ b1 / 64 = 2) → (2 < n ∧ b2 / 64 = 2) → (3 < n ∧ b3 / 64 = 2) → b3 = c3) :
    Lib.decodeN n b0 b1 b2 b3 = Lib.decodeN n' b0 c1 c2 c3 := by
  unfold Lib.decodeN
  by_cases A : 1 < n ∧ b1 / 64 = 2
  · have A' := h1.1 A
    have k1 := e1 A
    have h2 := h2 A
    have e2 := e2 A
    have h3 := h3 A
    have e3 := e3 A
    by_cases B : 2 < n ∧ b2 / 64 = 2
    · have B' := h2.1 B
      have k2 := e2 B
      have h3 := h3 B
      have e3 := e3 B
      by_cases C : 3 < n ∧ b3 / 64 = 2
      · have C' := h3.1 C
        have k3 := e3 C
        simp only [A, A', B, B', C, C', and_self, and_true, true_and]
        rw [← k1, ← k2, ← k3]
      · have C' : ¬ (3 < n' ∧ c3 / 64 = 2) := fun h => C (h3.2 h)
        simp only [C, C']
        simp only [A, A', B, B', and_self, and_true, true_and, and_false, if_false]
        rw [← k1, ← k2]
    · have B' : ¬ (2 < n' ∧ c2 / 64 = 2) := fun h => B (h2.2 h)
      simp only [B, B']
      simp only [A, A', and_self, and_true, true_and, and_false, false_and, if_false]
      rw [← k1]
  · have A' : ¬ (1 < n' ∧ c1 / 64 = 2) := fun h => A (h1.2 h)
    simp only [A, A', and_false, false_and, if_false]

def ContAt (z : List UInt8) (i : Nat) : Prop := i < z.length ∧ (z.getD i 0).toNat / 64 = 2
theorem cont0 : ∀ z : List UInt8, ContAt z 0 ↔ 0 < (conts z).length
  | [] => by simp [ContAt, conts_nil]
  | a :: z => by
    rw [conts_cons]
    unfold ContAt isCont
    by_cases h : a.toNat / 64 = 2 <;> simp [h]
theorem contS (a : UInt8) (z : List UInt8) (i : Nat) : ContAt (a :: z) (i + 1) ↔ ContAt z i := by
  unfold ContAt
  simp
theorem cont1 : ∀ z : List UInt8, ContAt z 0 → (ContAt z 1 ↔ 1 < (conts z).length)
  | [], h => by simp [ContAt] at h
  | a :: z, h => by
    have ha : isCont a = true := by unfold ContAt at h; simp at h; simp [isCont, h]
    rw [contS, cont0, conts_cons, if_pos ha, List.length_cons]
    omega
theorem cont2 : ∀ z : List UInt8, ContAt z 0 → ContAt z 1 → (ContAt z 2 ↔ 2 < (conts z).length)
  | [], h, _ => by simp [ContAt] at h
  | a :: z, h, h' => by
    have ha : isCont a = true := by unfold ContAt at h; simp at h; simp [isCont, h]
    rw [contS] at h' ⊢
    rw [cont1 z h', conts_cons, if_pos ha, List.length_cons]
    omega
theorem cont_get : ∀ (z : List UInt8) (i : Nat), i < (conts z).length → z.getD i 0 = (conts z).getD i 0
  | [], i, h => by simp [conts_nil] at h
  | a :: z, i, h => by
    rw [conts_cons] at h ⊢
    by_cases ha : isCont a = true
    · rw [if_pos ha] at h ⊢
      cases i with
      | zero => rfl
      | succ i => simpa using cont_get z i (by simpa using h)
    · rw [if_neg ha] at h; simp at h

theorem decode_conts (b : UInt8) (z y : List UInt8) (h : conts z = conts y) : Lib.decodeL (b :: z) = Lib.decodeL (b :: y) := by
  rw [Lib.decodeL_N, Lib.decodeL_N]
  simp only [List.getD_cons_zero, List.getD_cons_succ, List.length_cons]
  have f : ∀ (u : List UInt8) (i : Nat), (i + 1 < u.length + 1 ∧ (u.getD i 0).toNat / 64 = 2) ↔ ContAt u i := fun u i => by unfold ContAt; simp
  have g : ∀ i, i < (conts z).length → z.getD i 0 = y.getD i 0 := fun i hi => by rw [cont_get z i hi, h, cont_get y i (by rw [← h]; exact hi)]
  refine decodeN_same _ _ _ _ _ _ _ _ _ ?_ ?_ ?_ ?_ ?_ ?_
  · rw [f z 0, f y 0, cont0, cont0, h]
  · intro a
    rw [f z 0] at a
    rw [g 0 ((cont0 z).1 a)]
  · intro a
    rw [f z 0] at a
    have a' : ContAt y 0 := by rw [cont0] at a ⊢; rw [← h]; exact a
    rw [f z 1, f y 1, cont1 z a, cont1 y a', h]
  · intro a b'
    rw [f z 0] at a
    rw [f z 1] at b'
    rw [g 1 ((cont1 z a).1 b')]
  · intro a b'
    rw [f z 0] at a
    rw [f z 1] at b'
    have a' : ContAt y 0 := by rw [cont0] at a ⊢; rw [← h]; exact a
    have b'' : ContAt y 1 := by rw [cont1 z a] at b'; rw [cont1 y a', ← h]; exact b'
    rw [f z 2, f y 2, cont2 z a b', cont2 y a' b'', h]
  · intro a b' c'
    rw [f z 0] at a
    rw [f z 1] at b'
    rw [f z 2] at c'
    rw [g 2 ((cont2 z a b').1 c')]

theorem conts_append : ∀ (c x : List UInt8), (∀ b ∈ c, isCont b = true) → conts (c ++ x) = c ++ conts x
  | [], x, _ => rfl
  | b :: c, x, h => by
    rw [List.cons_append, conts_cons, if_pos (h b (List.mem_cons_self ..)), conts_append c x (fun y hy => h y (List.mem_cons_of_mem _ hy))]
    rfl
theorem conts_blank : ∀ (z : List UInt8) (x : UInt8) (y : List UInt8), isCont x = false → conts (z ++ x :: y) = conts z
  | [], x, y, h => by rw [List.nil_append, conts_cons, h]; rfl
  | b :: z, x, y, h => by
    rw [List.cons_append, conts_cons, conts_cons, conts_blank z x y h]

/-- Of a rune's bytes all but the first are continuations; where there are two and more, the first is none. -/
theorem width_conts (b : UInt8) (z : List UInt8) : (∀ x ∈ z.take ((Lib.decodeL (b :: z)).2 - 1), isCont x = true) ∧ (2 ≤ (Lib.decodeL (b :: z)).2 → isCont b = false) := by
  have hw := Lib.decodeL_N (b :: z)
  have hc := Lib.decodeN_conts (b :: z).length ((b :: z).getD 0 0).toNat ((b :: z).getD 1 0).toNat ((b :: z).getD 2 0).toNat ((b :: z).getD 3 0).toNat
  rw [← hw] at hc
  simp only [List.getD_cons_zero, List.getD_cons_succ, List.length_cons] at hc
  obtain ⟨c1, c2, c3, c4⟩ := hc
  have h1 := Lib.decodeL_width (b :: z)
  refine ⟨fun x hx => ?_, fun h => ?_⟩
  · obtain ⟨i, hi, rfl⟩ := List.mem_iff_getElem.1 hx
    rw [List.length_take] at hi
    have hd : z.getD i 0 = (z.take ((Lib.decodeL (b :: z)).2 - 1))[i] := by
      rw [List.getElem_take, List.getD_eq_getElem?_getD, List.getElem?_eq_getElem (by omega)]; rfl
    rw [← hd]
    have : i = 0 ∨ i = 1 ∨ i = 2 := by omega
    unfold isCont
    rcases this with rfl | rfl | rfl
    · rw [(c1 (by omega)).1]; rfl
    · rw [(c2 (by omega)).1]; rfl
    · rw [(c3 (by omega)).1]; rfl
  · unfold isCont
    rw [beq_eq_false_iff_ne]
    intro e
    rw [hw] at h
    simp only [List.getD_cons_zero] at h
    rw [Lib.decodeN_cont _ _ _ _ _ e] at h
    simp at h

/-! ### what Fold emits -/
def chunk (l : List UInt8) : List UInt8 := if inSps (Lib.decodeL l).1 upSps then Lib.encodeRune ((Lib.decodeL l).1 + 32 : Int) else l.take (Lib.decodeL l).2
theorem chunk_eq (l : List UInt8) : chunk l = if inSps (Lib.decodeL l).1 upSps then Lib.encodeRune ((Lib.decodeL l).1 + 32 : Int) else l.take (Lib.decodeL l).2 := rfl
def foldO : Nat → List UInt8 → Bool → Bool → List UInt8
  | 0, _, _, _ => []
  | n + 1, l, sp, st =>
    if l = [] then []
    else if inSps (Lib.decodeL l).1 spaceSps then foldO n (l.drop (Lib.decodeL l).2) true st
    else (if sp && st then [32] else []) ++ (chunk l ++ foldO n (l.drop (Lib.decodeL l).2) false true)

theorem foldO_nil (n : Nat) (sp st : Bool) : foldO n [] sp st = [] := by cases n <;> simp [foldO]

theorem up_range {r : Nat} (h : inSps (r : Int) upSps = true) : (65 ≤ r ∧ r ≤ 90) ∨ (192 ≤ r ∧ r ≤ 222) := by
  unfold inSps inSp upSps at h
  simp at h
  omega
theorem up_char {r : Nat} (h : inSps (r : Int) upSps = true) : ((65 ≤ r ∧ r ≤ 90) ∨ (192 ≤ r ∧ r ≤ 222)) ∧ r ≠ 215 := by
  unfold inSps inSp upSps at h
  simp at h
  omega
/-- A great letter's small one: its bytes, and how they are read. -/
theorem small_ascii (r : Nat) (h : 65 ≤ r ∧ r ≤ 90) : Lib.encodeRune ((r : Int) + 32) = [UInt8.ofNat (r + 32)] := by
  have : ∀ i : Fin 26, Lib.encodeRune (((65 + i.val : Nat) : Int) + 32) = [UInt8.ofNat (65 + i.val + 32)] := by decide +kernel
  have k := this ⟨r - 65, by omega⟩
  simp only at k
  rw [show 65 + (r - 65) = r by omega] at k
  exact k
theorem small_latin (r : Nat) (h : 192 ≤ r ∧ r ≤ 222) : Lib.encodeRune ((r : Int) + 32) = [195, UInt8.ofNat (r - 32)] := by
  have : ∀ i : Fin 31, Lib.encodeRune (((192 + i.val : Nat) : Int) + 32) = [195, UInt8.ofNat (192 + i.val - 32)] := by decide +kernel
  have k := this ⟨r - 192, by omega⟩
  simp only at k
  rw [show 192 + (r - 192) = r by omega] at k
  exact k
theorem decode_latin (k : Nat) (y : List UInt8) (h : 160 ≤ k ∧ k ≤ 190) : Lib.decodeL (195 :: UInt8.ofNat k :: y) = (k + 64, 2) := by
  rw [Lib.decodeL_N]
  simp only [List.getD_cons_zero, List.getD_cons_succ, List.length_cons]
  have hk : (UInt8.ofNat k).toNat = k := by rw [UInt8.toNat_ofNat']; omega
  rw [hk]
  unfold Lib.decodeN
  rw [if_neg (by decide), if_pos ⟨by decide, by omega, by omega⟩, if_pos (by simp; omega)]
  simp; omega
theorem up_decode {r : Nat} (h : inSps (r : Int) upSps = true) (y : List UInt8) : Lib.decodeL (Lib.encodeRune ((r : Int) + 32) ++ y) = (r + 32, (Lib.encodeRune ((r : Int) + 32)).length) ∧
    inSps ((r + 32 : Nat) : Int) upSps = false ∧ inSps ((r + 32 : Nat) : Int) spaceSps = false ∧ conts (Lib.encodeRune ((r : Int) + 32) ++ y) = [] ∧ Lib.encodeRune ((r : Int) + 32) ≠ [] := by
  obtain ⟨hr, h5⟩ := up_char h
  refine ⟨?_, ?_, ?_, ?_, ?_⟩
  · rcases hr with hr | hr
    · rw [small_ascii r hr]
      have hk : (UInt8.ofNat (r + 32)).toNat = r + 32 := by rw [UInt8.toNat_ofNat']; omega
      rw [List.cons_append, List.nil_append, Lib.decodeL_ascii _ _ (by omega), hk]
      rfl
    · rw [small_latin r hr, List.cons_append, List.cons_append, List.nil_append, decode_latin _ _ (by omega)]
      simp; omega
  · unfold inSps inSp upSps; simp; omega
  · unfold inSps inSp spaceSps; simp; omega
  · rcases hr with hr | hr
    · rw [small_ascii r hr, List.cons_append, conts_cons, if_neg]
      unfold isCont
      rw [UInt8.toNat_ofNat']
      simp; omega
    · rw [small_latin r hr, List.cons_append, conts_cons, if_neg (by decide)]
  · rcases hr with hr | hr
    · rw [small_ascii r hr]; simp
    · rw [small_latin r hr]; simp

theorem chunk_ne (l : List UInt8) (h : l ≠ []) : chunk l ≠ [] := by
  unfold chunk
  split
  · rename_i hu; exact (up_decode hu []).2.2.2.2
  · have := Lib.decodeL_width l
    cases l with
    | nil => exact absurd rfl h
    | cons b z => rw [List.take_cons (by omega)]; simp

theorem foldGo_out : ∀ (n : Nat) (l : List UInt8) (sp : Bool) (acc : List UInt8), foldGo n l sp acc = acc ++ foldO n l sp (decide (0 < acc.length))
  | 0, l, sp, acc => by simp [foldGo, foldO]
  | n + 1, l, sp, acc => by
    rw [foldGo, foldO]
    by_cases hl : l = []
    · rw [if_pos hl, if_pos hl, List.append_nil]
    · rw [if_neg hl, if_neg hl]
      by_cases hs : inSps (Lib.decodeL l).1 spaceSps = true
      · rw [if_pos hs, if_pos hs, foldGo_out n]
      · rw [if_neg hs, if_neg hs, foldGo_out n]
        have hc := chunk_ne l hl
        have e : (if inSps (Lib.decodeL l).1 upSps then Lib.encodeRune ((Lib.decodeL l).1 + 32 : Int) else l.take (Lib.decodeL l).2) = chunk l := rfl
        rw [e]
        have hp : decide (0 < ((if (sp && decide (0 < acc.length)) = true then acc ++ [32] else acc) ++ chunk l).length) = true := by
          rw [decide_eq_true_eq, List.length_append]
          have := List.length_pos_iff.2 hc
          omega
        rw [hp]
        cases sp && decide (0 < acc.length) <;> simp
theorem fold_out (l : List UInt8) : fold l = foldO l.length l false false := by
  unfold fold
  rw [foldGo_out]
  rfl

theorem foldO_fuel : ∀ (n m : Nat) (l : List UInt8) (sp st : Bool), l.length ≤ n → l.length ≤ m → foldO n l sp st = foldO m l sp st
  | n, m, [], sp, st, _, _ => by rw [foldO_nil, foldO_nil]
  | 0, m, b :: z, sp, st, h, _ => by simp at h
  | n + 1, 0, b :: z, sp, st, _, h => by simp at h
  | n + 1, m + 1, b :: z, sp, st, h, h' => by
    have hw := Lib.decodeL_width (b :: z)
    have hd : ((b :: z).drop (Lib.decodeL (b :: z)).2).length ≤ n ∧ ((b :: z).drop (Lib.decodeL (b :: z)).2).length ≤ m := by
      rw [List.length_drop]; simp only [List.length_cons] at *; omega
    rw [foldO, foldO, foldO_fuel n m _ true st hd.1 hd.2, foldO_fuel n m _ false true hd.1 hd.2]

/-- Where nothing stands yet, a blank ahead counts for nothing. -/
theorem foldO_start (n : Nat) (l : List UInt8) : foldO n l true false = foldO n l false false := by
  cases n with
  | zero => rfl
  | succ n => simp [foldO]

theorem space_head (b : UInt8) (z : List UInt8) (h : inSps (Lib.decodeL (b :: z)).1 spaceSps = true) : isCont b = false := by
  cases hb : isCont b with
  | false => rfl
  | true =>
    have e : b.toNat / 64 = 2 := by unfold isCont at hb; simpa using hb
    rw [Lib.decodeL_N] at h
    simp only [List.getD_cons_zero] at h
    rw [Lib.decodeN_cont _ _ _ _ _ e] at h
    exact absurd h (by decide)
theorem up_head (b : UInt8) (z : List UInt8) (h : inSps (Lib.decodeL (b :: z)).1 upSps = true) : isCont b = false := by
  cases hb : isCont b with
  | false => rfl
  | true =>
    have e : b.toNat / 64 = 2 := by unfold isCont at hb; simpa using hb
    rw [Lib.decodeL_N] at h
    simp only [List.getD_cons_zero] at h
    rw [Lib.decodeN_cont _ _ _ _ _ e] at h
    exact absurd h (by decide)

/-- The continuations at the head stay. -/
theorem fold_conts_blank : ∀ (n : Nat) (l : List UInt8), conts (foldO n l true true) = []
  | 0, l => rfl
  | n + 1, l => by
    rw [foldO]
    split
    · rfl
    · split
      · exact fold_conts_blank n _
      · simp [conts_cons, isCont]
theorem fold_conts : ∀ (n : Nat) (l : List UInt8), l.length ≤ n → conts (foldO n l false true) = conts l
  | n, [], _ => by rw [foldO_nil]
  | 0, b :: z, h => by simp at h
  | n + 1, b :: z, h => by
    have hw := Lib.decodeL_width (b :: z)
    rw [foldO, if_neg (by simp)]
    by_cases hs : inSps (Lib.decodeL (b :: z)).1 spaceSps = true
    · rw [if_pos hs, fold_conts_blank, conts_cons, space_head b z hs]
      rfl
    · rw [if_neg hs]
      simp only [Bool.false_and, Bool.false_eq_true, if_false, List.nil_append]
      by_cases hu : inSps (Lib.decodeL (b :: z)).1 upSps = true
      · unfold chunk
        rw [if_pos hu, (up_decode hu _).2.2.2.1, conts_cons, up_head b z hu]
        rfl
      · unfold chunk
        rw [if_neg hu, List.take_cons (by omega), List.cons_append, conts_cons, conts_cons]
        by_cases hb : isCont b = true
        · have h2 : ¬ 2 ≤ (Lib.decodeL (b :: z)).2 := fun h2 => by rw [(width_conts b z).2 h2] at hb; cases hb
          have e1 : (Lib.decodeL (b :: z)).2 = 1 := by omega
          rw [if_pos hb, if_pos hb, e1]
          simp only [Nat.sub_self, List.take_zero, List.nil_append, List.drop_succ_cons, List.drop_zero]
          rw [fold_conts n z (by simpa using h)]
        · rw [if_neg hb, if_neg hb]

/-- A chunk is read in the result as it was written. -/
theorem chunk_read (n : Nat) (b : UInt8) (z : List UInt8) (hn : (b :: z).length ≤ n + 1) (hs : inSps (Lib.decodeL (b :: z)).1 spaceSps = false) :
    ∃ r : Nat, Lib.decodeL (chunk (b :: z) ++ foldO n ((b :: z).drop (Lib.decodeL (b :: z)).2) false true) = (r, (chunk (b :: z)).length) ∧ inSps (r : Int) spaceSps = false ∧ inSps (r : Int) upSps = false ∧
      (r = (Lib.decodeL (b :: z)).1 ∨ (97 ≤ r ∧ 128 > r) ∨ 224 ≤ r) := by
  have hw := Lib.decodeL_width (b :: z)
  by_cases hu : inSps (Lib.decodeL (b :: z)).1 upSps = true
  · have e : chunk (b :: z) = Lib.encodeRune ((Lib.decodeL (b :: z)).1 + 32 : Int) := by unfold chunk; rw [if_pos hu]
    rw [e]
    obtain ⟨k1, k2, k3, _, _⟩ := up_decode hu (foldO n ((b :: z).drop (Lib.decodeL (b :: z)).2) false true)
    have := (up_char hu).1
    exact ⟨_, k1, k3, k2, by omega⟩
  · have e : chunk (b :: z) = (b :: z).take (Lib.decodeL (b :: z)).2 := by unfold chunk; rw [if_neg hu]
    have hle := Lib.decodeL_le (b :: z) (by simp)
    refine ⟨(Lib.decodeL (b :: z)).1, ?_, hs, by simpa using hu, Or.inl rfl⟩
    have hl : (chunk (b :: z)).length = (Lib.decodeL (b :: z)).2 := by rw [e, List.length_take]; omega
    rw [hl, e, List.take_cons (by omega), List.cons_append]
    have hz : (b :: z).drop (Lib.decodeL (b :: z)).2 = z.drop ((Lib.decodeL (b :: z)).2 - 1) := by
      conv => lhs; rw [show (Lib.decodeL (b :: z)).2 = (Lib.decodeL (b :: z)).2 - 1 + 1 by omega]
      rw [List.drop_succ_cons]
    have hc : conts (z.take ((Lib.decodeL (b :: z)).2 - 1) ++ foldO n ((b :: z).drop (Lib.decodeL (b :: z)).2) false true) = conts z := by
      rw [conts_append _ _ (width_conts b z).1, fold_conts n _ (by rw [List.length_drop]; simp only [List.length_cons] at *; omega), hz, ← conts_append _ _ (width_conts b z).1, List.take_append_drop]
    rw [decode_conts b _ z hc]

theorem blank_decode (y : List UInt8) : Lib.decodeL (32 :: y) = (32, 1) := Lib.decodeL_ascii 32 y (by decide)

/-- FOLDED AGAIN IT STAYS. -/
theorem foldO_twice : ∀ (n : Nat) (l : List UInt8) (sp st : Bool) (m : Nat), l.length ≤ n → (foldO n l sp st).length ≤ m → foldO m (foldO n l sp st) false st = foldO n l sp st
  | n, [], sp, st, m, _, _ => by rw [foldO_nil, foldO_nil]
  | 0, b :: z, sp, st, m, h, _ => by simp at h
  | n + 1, b :: z, sp, st, m, h, hm => by
    have hw := Lib.decodeL_width (b :: z)
    have hd : ((b :: z).drop (Lib.decodeL (b :: z)).2).length ≤ n := by rw [List.length_drop]; simp only [List.length_cons] at *; omega
    rw [foldO, if_neg (by simp)] at hm ⊢
    by_cases hs : inSps (Lib.decodeL (b :: z)).1 spaceSps = true
    · rw [if_pos hs] at hm ⊢
      exact foldO_twice n _ true st m hd hm
    · rw [if_neg hs] at hm ⊢
      have hs' : inSps (Lib.decodeL (b :: z)).1 spaceSps = false := by simpa using hs
      obtain ⟨r, k1, k2, k3, _⟩ := chunk_read n b z h hs'
      have hc := chunk_ne (b :: z) (by simp)
      have hcl := List.length_pos_iff.2 hc
      -- one chunk, whatever is asked of blanks
      have key : ∀ (f : Nat) (a : Bool), (chunk (b :: z) ++ foldO n ((b :: z).drop (Lib.decodeL (b :: z)).2) false true).length ≤ f →
          foldO f (chunk (b :: z) ++ foldO n ((b :: z).drop (Lib.decodeL (b :: z)).2) false true) a st = (if a && st then [32] else []) ++ (chunk (b :: z) ++ foldO n ((b :: z).drop (Lib.decodeL (b :: z)).2) false true) := by
        intro f a hf
        rw [List.length_append] at hf
        obtain ⟨f, rfl⟩ : ∃ g, f = g + 1 := ⟨f - 1, by omega⟩
        rw [foldO, if_neg (by simp [hc]), k1]
        simp only
        rw [k2, if_neg (by simp)]
        have e1 : chunk (chunk (b :: z) ++ foldO n ((b :: z).drop (Lib.decodeL (b :: z)).2) false true) = chunk (b :: z) := by
          rw [chunk_eq (chunk (b :: z) ++ foldO n ((b :: z).drop (Lib.decodeL (b :: z)).2) false true), k1]
          simp only
          rw [k3, if_neg (by simp), List.take_left' rfl]
        rw [e1, List.drop_left' rfl, foldO_twice n _ false true f hd (by omega)]
      by_cases hb : (sp && st) = true
      · rw [if_pos hb] at hm ⊢
        have hst : st = true := by cases st <;> simp_all
        subst hst
        simp only [List.cons_append, List.nil_append, List.length_cons] at hm ⊢
        obtain ⟨m, rfl⟩ : ∃ g, m = g + 1 := ⟨m - 1, by omega⟩
        rw [foldO, if_neg (by simp), blank_decode]
        simp only [List.drop_succ_cons, List.drop_zero]
        rw [if_pos (by decide), key m true (by omega)]
        rfl
      · rw [if_neg hb] at hm ⊢
        simp only [List.nil_append] at hm ⊢
        rw [key m false hm]
        rfl
theorem fold_twice (l : List UInt8) : fold (fold l) = fold l := by
  rw [fold_out (fold l), fold_out l]
  exact foldO_twice l.length l false false _ (Nat.le_refl _) (Nat.le_refl _)

/-! ### no sign that a name may not have comes in -/
theorem hasBad_fuel : ∀ (n m : Nat) (l : List UInt8), l.length ≤ n → l.length ≤ m → hasBad n l = hasBad m l
  | n, m, [], _, _ => by rw [hasBad_nil, hasBad_nil]
  | 0, m, b :: z, h, _ => by simp at h
  | n + 1, 0, b :: z, _, h => by simp at h
  | n + 1, m + 1, b :: z, h, h' => by
    have hw := Lib.decodeL_width (b :: z)
    have hd : ((b :: z).drop (Lib.decodeL (b :: z)).2).length ≤ n ∧ ((b :: z).drop (Lib.decodeL (b :: z)).2).length ≤ m := by
      rw [List.length_drop]; simp only [List.length_cons] at *; omega
    rw [hasBad, hasBad, hasBad_fuel n m _ hd.1 hd.2]
def badR (r : Nat) : Bool := badSigns.any (fun b => b.toNat == r)
theorem badR_big {r : Nat} (h : 97 ≤ r) : badR r = false := by
  unfold badR badSigns
  simp; omega
theorem fold_good : ∀ (n : Nat) (l : List UInt8) (sp st : Bool) (m : Nat), l.length ≤ n → (foldO n l sp st).length ≤ m → hasBad n l = false → hasBad m (foldO n l sp st) = false
  | n, [], sp, st, m, _, _, _ => by rw [foldO_nil, hasBad_nil]
  | 0, b :: z, sp, st, m, h, _, _ => by simp at h
  | n + 1, b :: z, sp, st, m, h, hm, hbad => by
    have hw := Lib.decodeL_width (b :: z)
    have hd : ((b :: z).drop (Lib.decodeL (b :: z)).2).length ≤ n := by rw [List.length_drop]; simp only [List.length_cons] at *; omega
    rw [hasBad, if_neg (by simp), Bool.or_eq_false_iff] at hbad
    obtain ⟨hb1, hb2⟩ := hbad
    rw [foldO, if_neg (by simp)] at hm ⊢
    by_cases hs : inSps (Lib.decodeL (b :: z)).1 spaceSps = true
    · rw [if_pos hs] at hm ⊢
      exact fold_good n _ true st m hd hm hb2
    · rw [if_neg hs] at hm ⊢
      have hs' : inSps (Lib.decodeL (b :: z)).1 spaceSps = false := by simpa using hs
      obtain ⟨r, k1, k2, k3, k4⟩ := chunk_read n b z h hs'
      have hc := chunk_ne (b :: z) (by simp)
      have hcl := List.length_pos_iff.2 hc
      have hr : badR r = false := by
        rcases k4 with h | h | h
        · rw [h]; exact hb1
        · exact badR_big h.1
        · exact badR_big (by omega)
      have key : ∀ f, (chunk (b :: z) ++ foldO n ((b :: z).drop (Lib.decodeL (b :: z)).2) false true).length ≤ f →
          hasBad f (chunk (b :: z) ++ foldO n ((b :: z).drop (Lib.decodeL (b :: z)).2) false true) = false := by
        intro f hf
        rw [List.length_append] at hf
        obtain ⟨f, rfl⟩ : ∃ g, f = g + 1 := ⟨f - 1, by omega⟩
        rw [hasBad, if_neg (by simp [hc]), k1]
        simp only
        rw [List.drop_left' rfl, fold_good n _ false true f hd (by omega) hb2, Bool.or_false]
        exact hr
      by_cases hb : (sp && st) = true
      · rw [if_pos hb] at hm ⊢
        simp only [List.cons_append, List.nil_append, List.length_cons] at hm ⊢
        obtain ⟨m, rfl⟩ : ∃ g, m = g + 1 := ⟨m - 1, by omega⟩
        rw [hasBad, if_neg (by simp), blank_decode]
        simp only [List.drop_succ_cons, List.drop_zero]
        rw [key m (by omega)]
        decide
      · rw [if_neg hb] at hm ⊢
        simp only [List.nil_append] at hm ⊢
        exact key m hm

/-- A NAME ASKED FOR BY ITSELF IS ITSELF. -/
theorem name_twice (l : List UInt8) (h : (nameL l).2 = true) : nameL (nameL l).1 = ((nameL l).1, true) ∧ (nameL l).1 = fold l := by
  unfold nameL at h
  split at h
  · cases h
  · rename_i h1
    split at h
    · cases h
    · rename_i h2
      have e : nameL l = (fold l, true) := by unfold nameL; rw [if_neg h1, if_neg h2]
      rw [e]
      refine ⟨?_, rfl⟩
      simp only
      have hg : hasBad (fold l).length (fold l) = false := by
        have := fold_good l.length l false false (fold l).length (Nat.le_refl _) (by rw [← fold_out]; exact Nat.le_refl _) (by simpa using h1)
        rw [← fold_out] at this
        exact this
      unfold nameL
      rw [hg, fold_twice, if_neg (by simp), if_neg h2]

/-! ### blanks around a text -/
theorem decode_tail (b : UInt8) (z : List UInt8) : Lib.decodeL ((b :: z) ++ [9, 32]) = Lib.decodeL (b :: z) := by
  rw [List.cons_append]
  exact decode_conts b _ _ (conts_blank z 9 [32] (by decide))
theorem foldO_tail : ∀ (n : Nat) (l : List UInt8) (sp st : Bool), l.length ≤ n → foldO (n + 2) (l ++ [9, 32]) sp st = foldO n l sp st
  | n, [], sp, st, _ => by
    rw [foldO_nil, List.nil_append]
    have d9 : Lib.decodeL [9, 32] = (9, 1) := Lib.decodeL_ascii 9 [32] (by decide)
    rw [foldO, if_neg (by simp), d9]
    simp only [List.drop_succ_cons, List.drop_zero]
    rw [if_pos (by decide), foldO, if_neg (by simp), blank_decode]
    simp only [List.drop_succ_cons, List.drop_zero]
    rw [if_pos (by decide), foldO_nil]
  | 0, b :: z, sp, st, h => by simp at h
  | n + 1, b :: z, sp, st, h => by
    have hw := Lib.decodeL_width (b :: z)
    have hle := Lib.decodeL_le (b :: z) (by simp)
    have hd : ((b :: z).drop (Lib.decodeL (b :: z)).2).length ≤ n := by rw [List.length_drop]; simp only [List.length_cons] at *; omega
    have e1 : ((b :: z) ++ [9, 32]).drop (Lib.decodeL (b :: z)).2 = (b :: z).drop (Lib.decodeL (b :: z)).2 ++ [9, 32] := List.drop_append_of_le_length hle
    have e2 : chunk ((b :: z) ++ [9, 32]) = chunk (b :: z) := by
      unfold chunk
      rw [decode_tail, List.take_append_of_le_length hle]
    rw [show n + 1 + 2 = (n + 2) + 1 by omega, foldO, if_neg (by simp), decode_tail, e1, e2, foldO_tail n _ true st hd, foldO_tail n _ false true hd]
    conv => rhs; rw [foldO, if_neg (by simp)]
theorem fold_around (l : List UInt8) : fold (32 :: (l ++ [9, 32])) = fold l := by
  rw [fold_out, fold_out, show (32 :: (l ++ [9, 32])).length = (l.length + 2) + 1 by simp, foldO, if_neg (by simp), blank_decode]
  simp only [List.drop_succ_cons, List.drop_zero]
  rw [if_pos (by decide), foldO_start, foldO_tail _ _ _ _ (Nat.le_refl _)]
theorem hasBad_tail : ∀ (n : Nat) (l : List UInt8), l.length ≤ n → hasBad (n + 2) (l ++ [9, 32]) = hasBad n l
  | n, [], _ => by
    rw [hasBad_nil, List.nil_append]
    have d9 : Lib.decodeL [9, 32] = (9, 1) := Lib.decodeL_ascii 9 [32] (by decide)
    rw [hasBad, if_neg (by simp), d9]
    simp only [List.drop_succ_cons, List.drop_zero]
    rw [hasBad, if_neg (by simp), blank_decode]
    simp only [List.drop_succ_cons, List.drop_zero]
    rw [hasBad_nil]
    decide
  | 0, b :: z, h => by simp at h
  | n + 1, b :: z, h => by
    have hw := Lib.decodeL_width (b :: z)
    have hle := Lib.decodeL_le (b :: z) (by simp)
    have hd : ((b :: z).drop (Lib.decodeL (b :: z)).2).length ≤ n := by rw [List.length_drop]; simp only [List.length_cons] at *; omega
    have e1 : ((b :: z) ++ [9, 32]).drop (Lib.decodeL (b :: z)).2 = (b :: z).drop (Lib.decodeL (b :: z)).2 ++ [9, 32] := List.drop_append_of_le_length hle
    rw [show n + 1 + 2 = (n + 2) + 1 by omega, hasBad, if_neg (by simp), decode_tail, e1, hasBad_tail n _ hd]
    conv => rhs; rw [hasBad, if_neg (by simp)]
theorem name_around (l : List UInt8) : nameL (32 :: (l ++ [9, 32])) = nameL l := by
  unfold nameL
  rw [fold_around]
  have : hasBad (32 :: (l ++ [9, 32])).length (32 :: (l ++ [9, 32])) = hasBad l.length l := by
    rw [show (32 :: (l ++ [9, 32])).length = (l.length + 2) + 1 by simp, hasBad, if_neg (by simp), blank_decode]
    simp only [List.drop_succ_cons, List.drop_zero]
    rw [hasBad_tail _ _ (Nat.le_refl _), show (badSigns.any fun b => b.toNat == 32) = false by decide, Bool.false_or]
  rw [this]

end Go.Proofs.YtmllkffdejojbaaDoor
