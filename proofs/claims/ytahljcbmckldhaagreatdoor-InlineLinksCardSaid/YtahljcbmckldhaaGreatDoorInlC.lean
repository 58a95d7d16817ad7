/-
  The texts FoldLaw, IdxAny, IdxTwo, InlAt, Asked, Add, OneByte, Emph1, Emph2, Emph3, ShapeLaw, Emph4, GroupLaw, one behind the other.
-/
import Derived.Test.YtahljcbmckldhaaGreatDoorInlB
import Derived.Shelf.Strings.IndexAnyAll
import Derived.Lib.SlTrimSet
import Derived.Shelf.Strings.SlTrimAscii
import Derived.Deep.RegionLaw
import Derived.Deep.AppendLies
import Derived.Test.YtahljcbmckldhaaGreatDoorRows
import Derived.Laws.IdiomStrings
import Derived.StillTailTactics
import Derived.Deep.QuietTactic
import Derived.BigQuiet

/-
  repair.Fold: folded again it stays; blanks around a text are as none. Plain facts, no program in sight.
-/
namespace Go.Proofs.YtahljcbmckldhaaGreatDoor
open Go.RowKit
set_option maxRecDepth 100000
set_option linter.unusedVariables false
set_option linter.unusedSimpArgs false

/-! ### what a decoding depends on -/
def isCont (b : UInt8) : Bool := b.toNat / 64 == 2
def conts (l : List UInt8) : List UInt8 := l.takeWhile isCont
theorem conts_cons (b : UInt8) (l : List UInt8) : conts (b :: l) = if isCont b then b :: conts l else [] := by
  unfold conts; rw [List.takeWhile_cons]
theorem conts_nil : conts [] = [] := rfl

theorem decodeN_same (n n' b0 b1 b2 b3 c1 c2 c3 : Nat)
    (h1 : (1 < n ∧ b1 / 64 = 2) ↔ (1 < n' ∧ c1 / 64 = 2)) (e1 : (1 < n ∧ b1 / 64 = 2) → b1 = c1)
    (h2 : (1 < n ∧ b1 / 64 = 2) → ((2 < n ∧ b2 / 64 = 2) ↔ (2 < n' ∧ c2 / 64 = 2))) (e2 : (1 < n ∧ b1 / 64 = 2) → (2 < n ∧ b2 / 64 = 2) → b2 = c2)
    (h3 : (1 < n ∧ b1 / 64 = 2) → (2 < n ∧ b2 / 64 = 2) → ((3 < n ∧ b3 / 64 = 2) ↔ (3 < n' ∧ c3 / 64 = 2))) (e3 : (1 < n ∧ b1 / 64 = 2) → (2 < n ∧ b2 / 64 = 2) → (3 < n ∧ b3 / 64 = 2) → b3 = c3) :
    Lib.decodeN n b0 b1 b2 b3 = Lib.decodeN n' b0 c1 c2 c3 := by
  unfold Lib.decodeN
  by_cases A : 1 < n ∧ b1 / 64 = 2
  · have A' := h1.1 A
    have k1 := e1 A
    have h2 := h2 A
    have e2 := e2 A
    have h3 := h3 A
    have e3 := e3 A
    by_cases B : 2 < n ∧ b2 / 64 = 2
    · have B' := h2.1 B
      have k2 := e2 B
      have h3 := h3 B
      have e3 := e3 B
      by_cases C : 3 < n ∧ b3 / 64 = 2
      · have C' := h3.1 C
        have k3 := e3 C
        simp only [A, A', B, B', C, C', and_self, and_true, true_and]
        rw [← k1, ← k2, ← k3]
      · have C' : ¬ (3 < n' ∧ c3 / 64 = 2) := fun h => C (h3.2 h)
        simp only [C, C']
        simp only [A, A', B, B', and_self, and_true, true_and, and_false, if_false]
        rw [← k1, ← k2]
    · have B' : ¬ (2 < n' ∧ c2 / 64 = 2) := fun h => B (h2.2 h)
      simp only [B, B']
      simp only [A, A', and_self, and_true, true_and, and_false, false_and, if_false]
      rw [← k1]
  · have A' : ¬ (1 < n' ∧ c1 / 64 = 2) := fun h => A (h1.2 h)
    simp only [A, A', and_false, false_and, if_false]

def ContAt (z : List UInt8) (i : Nat) : Prop := i < z.length ∧ (z.getD i 0).toNat / 64 = 2
theorem cont0 : ∀ z : List UInt8, ContAt z 0 ↔ 0 < (conts z).length
  | [] => by simp [ContAt, conts_nil]
  | a :: z => by
    rw [conts_cons]
    unfold ContAt isCont
    by_cases h : a.toNat / 64 = 2 <;> simp [h]
theorem contS (a : UInt8) (z : List UInt8) (i : Nat) : ContAt (a :: z) (i + 1) ↔ ContAt z i := by
  unfold ContAt
  simp
theorem cont1 : ∀ z : List UInt8, ContAt z 0 → (ContAt z 1 ↔ 1 < (conts z).length)
  | [], h => by simp [ContAt] at h
  | a :: z, h => by
    have ha : isCont a = true := by unfold ContAt at h; simp at h; simp [isCont, h]
    rw [contS, cont0, conts_cons, if_pos ha, List.length_cons]
    omega
theorem cont2 : ∀ z : List UInt8, ContAt z 0 → ContAt z 1 → (ContAt z 2 ↔ 2 < (conts z).length)
  | [], h, _ => by simp [ContAt] at h
  | a :: z, h, h' => by
    have ha : isCont a = true := by unfold ContAt at h; simp at h; simp [isCont, h]
    rw [contS] at h' ⊢
    rw [cont1 z h', conts_cons, if_pos ha, List.length_cons]
    omega
theorem cont_get : ∀ (z : List UInt8) (i : Nat), i < (conts z).length → z.getD i 0 = (conts z).getD i 0
  | [], i, h => by simp [conts_nil] at h
  | a :: z, i, h => by
    rw [conts_cons] at h ⊢
    by_cases ha : isCont a = true
    · rw [if_pos ha] at h ⊢
      cases i with
      | zero => rfl
      | succ i => simpa using cont_get z i (by simpa using h)
    · rw [if_neg ha] at h; simp at h

theorem decode_conts (b : UInt8) (z y : List UInt8) (h : conts z = conts y) : Lib.decodeL (b :: z) = Lib.decodeL (b :: y) := by
  rw [Lib.decodeL_N, Lib.decodeL_N]
  simp only [List.getD_cons_zero, List.getD_cons_succ, List.length_cons]
  have f : ∀ (u : List UInt8) (i : Nat), (i + 1 < u.length + 1 ∧ (u.getD i 0).toNat / 64 = 2) ↔ ContAt u i := fun u i => by unfold ContAt; simp
  have g : ∀ i, i < (conts z).length → z.getD i 0 = y.getD i 0 := fun i hi => by rw [cont_get z i hi, h, cont_get y i (by rw [← h]; exact hi)]
  refine decodeN_same _ _ _ _ _ _ _ _ _ ?_ ?_ ?_ ?_ ?_ ?_
  · rw [f z 0, f y 0, cont0, cont0, h]
  · intro a
    rw [f z 0] at a
    rw [g 0 ((cont0 z).1 a)]
  · intro a
    rw [f z 0] at a
    have a' : ContAt y 0 := by rw [cont0] at a ⊢; rw [← h]; exact a
    rw [f z 1, f y 1, cont1 z a, cont1 y a', h]
  · intro a b'
    rw [f z 0] at a
    rw [f z 1] at b'
    rw [g 1 ((cont1 z a).1 b')]
  · intro a b'
    rw [f z 0] at a
    rw [f z 1] at b'
    have a' : ContAt y 0 := by rw [cont0] at a ⊢; rw [← h]; exact a
    have b'' : ContAt y 1 := by rw [cont1 z a] at b'; rw [cont1 y a', ← h]; exact b'
    rw [f z 2, f y 2, cont2 z a b', cont2 y a' b'', h]
  · intro a b' c'
    rw [f z 0] at a
    rw [f z 1] at b'
    rw [f z 2] at c'
    rw [g 2 ((cont2 z a b').1 c')]

theorem conts_append : ∀ (c x : List UInt8), (∀ b ∈ c, isCont b = true) → conts (c ++ x) = c ++ conts x
  | [], x, _ => rfl
  | b :: c, x, h => by
    rw [List.cons_append, conts_cons, if_pos (h b (List.mem_cons_self ..)), conts_append c x (fun y hy => h y (List.mem_cons_of_mem _ hy))]
    rfl
theorem conts_blank : ∀ (z : List UInt8) (x : UInt8) (y : List UInt8), isCont x = false → conts (z ++ x :: y) = conts z
  | [], x, y, h => by rw [List.nil_append, conts_cons, h]; rfl
  | b :: z, x, y, h => by
    rw [List.cons_append, conts_cons, conts_cons, conts_blank z x y h]

/-- Of a rune's bytes all but the first are continuations; where there are two and more, the first is none. -/
theorem width_conts (b : UInt8) (z : List UInt8) : (∀ x ∈ z.take ((Lib.decodeL (b :: z)).2 - 1), isCont x = true) ∧ (2 ≤ (Lib.decodeL (b :: z)).2 → isCont b = false) := by
  have hw := Lib.decodeL_N (b :: z)
  have hc := Lib.decodeN_conts (b :: z).length ((b :: z).getD 0 0).toNat ((b :: z).getD 1 0).toNat ((b :: z).getD 2 0).toNat ((b :: z).getD 3 0).toNat
  rw [← hw] at hc
  simp only [List.getD_cons_zero, List.getD_cons_succ, List.length_cons] at hc
  obtain ⟨c1, c2, c3, c4⟩ := hc
  have h1 := Lib.decodeL_width (b :: z)
  refine ⟨fun x hx => ?_, fun h => ?_⟩
  · obtain ⟨i, hi, rfl⟩ := List.mem_iff_getElem.1 hx
    rw [List.length_take] at hi
    have hd : z.getD i 0 = (z.take ((Lib.decodeL (b :: z)).2 - 1))[i] := by
      rw [List.getElem_take, List.getD_eq_getElem?_getD, List.getElem?_eq_getElem (by omega)]; rfl
    rw [← hd]
    have : i = 0 ∨ i = 1 ∨ i = 2 := by omega
    unfold isCont
    rcases this with rfl | rfl | rfl
    · rw [(c1 (by omega)).1]; rfl
    · rw [(c2 (by omega)).1]; rfl
    · rw [(c3 (by omega)).1]; rfl
  · unfold isCont
    rw [beq_eq_false_iff_ne]
    intro e
    rw [hw] at h
    simp only [List.getD_cons_zero] at h
    rw [Lib.decodeN_cont _ _ _ _ _ e] at h
    simp at h

/-! ### what Fold emits -/
def chunk (l : List UInt8) : List UInt8 := if inSps (Lib.decodeL l).1 upSps then Lib.encodeRune ((Lib.decodeL l).1 + 32 : Int) else l.take (Lib.decodeL l).2
theorem chunk_eq (l : List UInt8) : chunk l = if inSps (Lib.decodeL l).1 upSps then Lib.encodeRune ((Lib.decodeL l).1 + 32 : Int) else l.take (Lib.decodeL l).2 := rfl
def foldO : Nat → List UInt8 → Bool → Bool → List UInt8
  | 0, _, _, _ => []
  | n + 1, l, sp, st =>
    if l = [] then []
    else if inSps (Lib.decodeL l).1 spaceSps then foldO n (l.drop (Lib.decodeL l).2) true st
    else (if sp && st then [32] else []) ++ (chunk l ++ foldO n (l.drop (Lib.decodeL l).2) false true)

theorem foldO_nil (n : Nat) (sp st : Bool) : foldO n [] sp st = [] := by cases n <;> simp [foldO]

theorem up_range {r : Nat} (h : inSps (r : Int) upSps = true) : (65 ≤ r ∧ r ≤ 90) ∨ (192 ≤ r ∧ r ≤ 222) := by
  unfold inSps inSp upSps at h
  simp at h
  omega
theorem up_char {r : Nat} (h : inSps (r : Int) upSps = true) : ((65 ≤ r ∧ r ≤ 90) ∨ (192 ≤ r ∧ r ≤ 222)) ∧ r ≠ 215 := by
  unfold inSps inSp upSps at h
  simp at h
  omega
/-- A great letter's small one: its bytes, and how they are read. -/
theorem small_ascii (r : Nat) (h : 65 ≤ r ∧ r ≤ 90) : Lib.encodeRune ((r : Int) + 32) = [UInt8.ofNat (r + 32)] := by
  have : ∀ i : Fin 26, Lib.encodeRune (((65 + i.val : Nat) : Int) + 32) = [UInt8.ofNat (65 + i.val + 32)] := by decide +kernel
  have k := this ⟨r - 65, by omega⟩
  simp only at k
  rw [show 65 + (r - 65) = r by omega] at k
  exact k
theorem small_latin (r : Nat) (h : 192 ≤ r ∧ r ≤ 222) : Lib.encodeRune ((r : Int) + 32) = [195, UInt8.ofNat (r - 32)] := by
  have : ∀ i : Fin 31, Lib.encodeRune (((192 + i.val : Nat) : Int) + 32) = [195, UInt8.ofNat (192 + i.val - 32)] := by decide +kernel
  have k := this ⟨r - 192, by omega⟩
  simp only at k
  rw [show 192 + (r - 192) = r by omega] at k
  exact k
theorem decode_latin (k : Nat) (y : List UInt8) (h : 160 ≤ k ∧ k ≤ 190) : Lib.decodeL (195 :: UInt8.ofNat k :: y) = (k + 64, 2) := by
  rw [Lib.decodeL_N]
  simp only [List.getD_cons_zero, List.getD_cons_succ, List.length_cons]
  have hk : (UInt8.ofNat k).toNat = k := by rw [UInt8.toNat_ofNat']; omega
  rw [hk]
  unfold Lib.decodeN
  rw [if_neg (by decide), if_pos ⟨by decide, by omega, by omega⟩, if_pos (by simp; omega)]
  simp; omega
theorem up_decode {r : Nat} (h : inSps (r : Int) upSps = true) (y : List UInt8) : Lib.decodeL (Lib.encodeRune ((r : Int) + 32) ++ y) = (r + 32, (Lib.encodeRune ((r : Int) + 32)).length) ∧
    inSps ((r + 32 : Nat) : Int) upSps = false ∧ inSps ((r + 32 : Nat) : Int) spaceSps = false ∧ conts (Lib.encodeRune ((r : Int) + 32) ++ y) = [] ∧ Lib.encodeRune ((r : Int) + 32) ≠ [] := by
  obtain ⟨hr, h5⟩ := up_char h
  refine ⟨?_, ?_, ?_, ?_, ?_⟩
  · rcases hr with hr | hr
    · rw [small_ascii r hr]
      have hk : (UInt8.ofNat (r + 32)).toNat = r + 32 := by rw [UInt8.toNat_ofNat']; omega
      rw [List.cons_append, List.nil_append, Lib.decodeL_ascii _ _ (by omega), hk]
      rfl
    · rw [small_latin r hr, List.cons_append, List.cons_append, List.nil_append, decode_latin _ _ (by omega)]
      simp; omega
  · unfold inSps inSp upSps; simp; omega
  · unfold inSps inSp spaceSps; simp; omega
  · rcases hr with hr | hr
    · rw [small_ascii r hr, List.cons_append, conts_cons, if_neg]
      unfold isCont
      rw [UInt8.toNat_ofNat']
      simp; omega
    · rw [small_latin r hr, List.cons_append, conts_cons, if_neg (by decide)]
  · rcases hr with hr | hr
    · rw [small_ascii r hr]; simp
    · rw [small_latin r hr]; simp

theorem chunk_ne (l : List UInt8) (h : l ≠ []) : chunk l ≠ [] := by
  unfold chunk
  split
  · rename_i hu; exact (up_decode hu []).2.2.2.2
  · have := Lib.decodeL_width l
    cases l with
    | nil => exact absurd rfl h
    | cons b z => rw [List.take_cons (by omega)]; simp

theorem foldGo_out : ∀ (n : Nat) (l : List UInt8) (sp : Bool) (acc : List UInt8), foldGo n l sp acc = acc ++ foldO n l sp (decide (0 < acc.length))
  | 0, l, sp, acc => by simp [foldGo, foldO]
  | n + 1, l, sp, acc => by
    rw [foldGo, foldO]
    by_cases hl : l = []
    · rw [if_pos hl, if_pos hl, List.append_nil]
    · rw [if_neg hl, if_neg hl]
      by_cases hs : inSps (Lib.decodeL l).1 spaceSps = true
      · rw [if_pos hs, if_pos hs, foldGo_out n]
      · rw [if_neg hs, if_neg hs, foldGo_out n]
        have hc := chunk_ne l hl
        have e : (if inSps (Lib.decodeL l).1 upSps then Lib.encodeRune ((Lib.decodeL l).1 + 32 : Int) else l.take (Lib.decodeL l).2) = chunk l := rfl
        rw [e]
        have hp : decide (0 < ((if (sp && decide (0 < acc.length)) = true then acc ++ [32] else acc) ++ chunk l).length) = true := by
          rw [decide_eq_true_eq, List.length_append]
          have := List.length_pos_iff.2 hc
          omega
        rw [hp]
        cases sp && decide (0 < acc.length) <;> simp
theorem fold_out (l : List UInt8) : fold l = foldO l.length l false false := by
  unfold fold
  rw [foldGo_out]
  rfl

theorem foldO_fuel : ∀ (n m : Nat) (l : List UInt8) (sp st : Bool), l.length ≤ n → l.length ≤ m → foldO n l sp st = foldO m l sp st
  | n, m, [], sp, st, _, _ => by rw [foldO_nil, foldO_nil]
  | 0, m, b :: z, sp, st, h, _ => by simp at h
  | n + 1, 0, b :: z, sp, st, _, h => by simp at h
  | n + 1, m + 1, b :: z, sp, st, h, h' => by
    have hw := Lib.decodeL_width (b :: z)
    have hd : ((b :: z).drop (Lib.decodeL (b :: z)).2).length ≤ n ∧ ((b :: z).drop (Lib.decodeL (b :: z)).2).length ≤ m := by
      rw [List.length_drop]; simp only [List.length_cons] at *; omega
    rw [foldO, foldO, foldO_fuel n m _ true st hd.1 hd.2, foldO_fuel n m _ false true hd.1 hd.2]

/-- Where nothing stands yet, a blank ahead counts for nothing. -/
theorem foldO_start (n : Nat) (l : List UInt8) : foldO n l true false = foldO n l false false := by
  cases n with
  | zero => rfl
  | succ n => simp [foldO]

theorem space_head (b : UInt8) (z : List UInt8) (h : inSps (Lib.decodeL (b :: z)).1 spaceSps = true) : isCont b = false := by
  cases hb : isCont b with
  | false => rfl
  | true =>
    have e : b.toNat / 64 = 2 := by unfold isCont at hb; simpa using hb
    rw [Lib.decodeL_N] at h
    simp only [List.getD_cons_zero] at h
    rw [Lib.decodeN_cont _ _ _ _ _ e] at h
    exact absurd h (by decide)
theorem up_head (b : UInt8) (z : List UInt8) (h : inSps (Lib.decodeL (b :: z)).1 upSps = true) : isCont b = false := by
  cases hb : isCont b with
  | false => rfl
  | true =>
    have e : b.toNat / 64 = 2 := by unfold isCont at hb; simpa using hb
    rw [Lib.decodeL_N] at h
    simp only [List.getD_cons_zero] at h
    rw [Lib.decodeN_cont _ _ _ _ _ e] at h
    exact absurd h (by decide)

/-- The continuations at the head stay. -/
theorem fold_conts_blank : ∀ (n : Nat) (l : List UInt8), conts (foldO n l true true) = []
  | 0, l => rfl
  | n + 1, l => by
    rw [foldO]
    split
    · rfl
    · split
      · exact fold_conts_blank n _
      · simp [conts_cons, isCont]
theorem fold_conts : ∀ (n : Nat) (l : List UInt8), l.length ≤ n → conts (foldO n l false true) = conts l
  | n, [], _ => by rw [foldO_nil]
  | 0, b :: z, h => by simp at h
  | n + 1, b :: z, h => by
    have hw := Lib.decodeL_width (b :: z)
    rw [foldO, if_neg (by simp)]
    by_cases hs : inSps (Lib.decodeL (b :: z)).1 spaceSps = true
    · rw [if_pos hs, fold_conts_blank, conts_cons, space_head b z hs]
      rfl
    · rw [if_neg hs]
      simp only [Bool.false_and, Bool.false_eq_true, if_false, List.nil_append]
      by_cases hu : inSps (Lib.decodeL (b :: z)).1 upSps = true
      · unfold chunk
        rw [if_pos hu, (up_decode hu _).2.2.2.1, conts_cons, up_head b z hu]
        rfl
      · unfold chunk
        rw [if_neg hu, List.take_cons (by omega), List.cons_append, conts_cons, conts_cons]
        by_cases hb : isCont b = true
        · have h2 : ¬ 2 ≤ (Lib.decodeL (b :: z)).2 := fun h2 => by rw [(width_conts b z).2 h2] at hb; cases hb
          have e1 : (Lib.decodeL (b :: z)).2 = 1 := by omega
          rw [if_pos hb, if_pos hb, e1]
          simp only [Nat.sub_self, List.take_zero, List.nil_append, List.drop_succ_cons, List.drop_zero]
          rw [fold_conts n z (by simpa using h)]
        · rw [if_neg hb, if_neg hb]

/-- A chunk is read in the result as it was written. -/
theorem chunk_read (n : Nat) (b : UInt8) (z : List UInt8) (hn : (b :: z).length ≤ n + 1) (hs : inSps (Lib.decodeL (b :: z)).1 spaceSps = false) :
    ∃ r : Nat, Lib.decodeL (chunk (b :: z) ++ foldO n ((b :: z).drop (Lib.decodeL (b :: z)).2) false true) = (r, (chunk (b :: z)).length) ∧ inSps (r : Int) spaceSps = false ∧ inSps (r : Int) upSps = false ∧
      (r = (Lib.decodeL (b :: z)).1 ∨ (97 ≤ r ∧ 128 > r) ∨ 224 ≤ r) := by
  have hw := Lib.decodeL_width (b :: z)
  by_cases hu : inSps (Lib.decodeL (b :: z)).1 upSps = true
  · have e : chunk (b :: z) = Lib.encodeRune ((Lib.decodeL (b :: z)).1 + 32 : Int) := by unfold chunk; rw [if_pos hu]
    rw [e]
    obtain ⟨k1, k2, k3, _, _⟩ := up_decode hu (foldO n ((b :: z).drop (Lib.decodeL (b :: z)).2) false true)
    have := (up_char hu).1
    exact ⟨_, k1, k3, k2, by omega⟩
  · have e : chunk (b :: z) = (b :: z).take (Lib.decodeL (b :: z)).2 := by unfold chunk; rw [if_neg hu]
    have hle := Lib.decodeL_le (b :: z) (by simp)
    refine ⟨(Lib.decodeL (b :: z)).1, ?_, hs, by simpa using hu, Or.inl rfl⟩
    have hl : (chunk (b :: z)).length = (Lib.decodeL (b :: z)).2 := by rw [e, List.length_take]; omega
    rw [hl, e, List.take_cons (by omega), List.cons_append]
    have hz : (b :: z).drop (Lib.decodeL (b :: z)).2 = z.drop ((Lib.decodeL (b :: z)).2 - 1) := by
      conv => lhs; rw [show (Lib.decodeL (b :: z)).2 = (Lib.decodeL (b :: z)).2 - 1 + 1 by omega]
      rw [List.drop_succ_cons]
    have hc : conts (z.take ((Lib.decodeL (b :: z)).2 - 1) ++ foldO n ((b :: z).drop (Lib.decodeL (b :: z)).2) false true) = conts z := by
      rw [conts_append _ _ (width_conts b z).1, fold_conts n _ (by rw [List.length_drop]; simp only [List.length_cons] at *; omega), hz, ← conts_append _ _ (width_conts b z).1, List.take_append_drop]
    rw [decode_conts b _ z hc]

theorem blank_decode (y : List UInt8) : Lib.decodeL (32 :: y) = (32, 1) := Lib.decodeL_ascii 32 y (by decide)

/-- FOLDED AGAIN IT STAYS. -/
theorem foldO_twice : ∀ (n : Nat) (l : List UInt8) (sp st : Bool) (m : Nat), l.length ≤ n → (foldO n l sp st).length ≤ m → foldO m (foldO n l sp st) false st = foldO n l sp st
  | n, [], sp, st, m, _, _ => by rw [foldO_nil, foldO_nil]
  | 0, b :: z, sp, st, m, h, _ => by simp at h
  | n + 1, b :: z, sp, st, m, h, hm => by
    have hw := Lib.decodeL_width (b :: z)
    have hd : ((b :: z).drop (Lib.decodeL (b :: z)).2).length ≤ n := by rw [List.length_drop]; simp only [List.length_cons] at *; omega
    rw [foldO, if_neg (by simp)] at hm ⊢
    by_cases hs : inSps (Lib.decodeL (b :: z)).1 spaceSps = true
    · rw [if_pos hs] at hm ⊢
      exact foldO_twice n _ true st m hd hm
    · rw [if_neg hs] at hm ⊢
      have hs' : inSps (Lib.decodeL (b :: z)).1 spaceSps = false := by simpa using hs
      obtain ⟨r, k1, k2, k3, _⟩ := chunk_read n b z h hs'
      have hc := chunk_ne (b :: z) (by simp)
      have hcl := List.length_pos_iff.2 hc
      -- one chunk, whatever is asked of blanks
      have key : ∀ (f : Nat) (a : Bool), (chunk (b :: z) ++ foldO n ((b :: z).drop (Lib.decodeL (b :: z)).2) false true).length ≤ f →
          foldO f (chunk (b :: z) ++ foldO n ((b :: z).drop (Lib.decodeL (b :: z)).2) false true) a st = (if a && st then [32] else []) ++ (chunk (b :: z) ++ foldO n ((b :: z).drop (Lib.decodeL (b :: z)).2) false true) := by
        intro f a hf
        rw [List.length_append] at hf
        obtain ⟨f, rfl⟩ : ∃ g, f = g + 1 := ⟨f - 1, by omega⟩
        rw [foldO, if_neg (by simp [hc]), k1]
        simp only
        rw [k2, if_neg (by simp)]
        have e1 : chunk (chunk (b :: z) ++ foldO n ((b :: z).drop (Lib.decodeL (b :: z)).2) false true) = chunk (b :: z) := by
          rw [chunk_eq (chunk (b :: z) ++ foldO n ((b :: z).drop (Lib.decodeL (b :: z)).2) false true), k1]
          simp only
          rw [k3, if_neg (by simp), List.take_left' rfl]
        rw [e1, List.drop_left' rfl, foldO_twice n _ false true f hd (by omega)]
      by_cases hb : (sp && st) = true
      · rw [if_pos hb] at hm ⊢
        have hst : st = true := by cases st <;> simp_all
        subst hst
        simp only [List.cons_append, List.nil_append, List.length_cons] at hm ⊢
        obtain ⟨m, rfl⟩ : ∃ g, m = g + 1 := ⟨m - 1, by omega⟩
        rw [foldO, if_neg (by simp), blank_decode]
        simp only [List.drop_succ_cons, List.drop_zero]
        rw [if_pos (by decide), key m true (by omega)]
        rfl
      · rw [if_neg hb] at hm ⊢
        simp only [List.nil_append] at hm ⊢
        rw [key m false hm]
        rfl
theorem fold_twice (l : List UInt8) : fold (fold l) = fold l := by
  rw [fold_out (fold l), fold_out l]
  exact foldO_twice l.length l false false _ (Nat.le_refl _) (Nat.le_refl _)

/-! ### no sign that a name may not have comes in -/
theorem hasBad_fuel : ∀ (n m : Nat) (l : List UInt8), l.length ≤ n → l.length ≤ m → hasBad n l = hasBad m l
  | n, m, [], _, _ => by rw [hasBad_nil, hasBad_nil]
  | 0, m, b :: z, h, _ => by simp at h
  | n + 1, 0, b :: z, _, h => by simp at h
  | n + 1, m + 1, b :: z, h, h' => by
    have hw := Lib.decodeL_width (b :: z)
    have hd : ((b :: z).drop (Lib.decodeL (b :: z)).2).length ≤ n ∧ ((b :: z).drop (Lib.decodeL (b :: z)).2).length ≤ m := by
      rw [List.length_drop]; simp only [List.length_cons] at *; omega
    rw [hasBad, hasBad, hasBad_fuel n m _ hd.1 hd.2]
def badR (r : Nat) : Bool := badSigns.any (fun b => b.toNat == r)
theorem badR_big {r : Nat} (h : 97 ≤ r) : badR r = false := by
  unfold badR badSigns
  simp; omega
theorem fold_good : ∀ (n : Nat) (l : List UInt8) (sp st : Bool) (m : Nat), l.length ≤ n → (foldO n l sp st).length ≤ m → hasBad n l = false → hasBad m (foldO n l sp st) = false
  | n, [], sp, st, m, _, _, _ => by rw [foldO_nil, hasBad_nil]
  | 0, b :: z, sp, st, m, h, _, _ => by simp at h
  | n + 1, b :: z, sp, st, m, h, hm, hbad => by
    have hw := Lib.decodeL_width (b :: z)
    have hd : ((b :: z).drop (Lib.decodeL (b :: z)).2).length ≤ n := by rw [List.length_drop]; simp only [List.length_cons] at *; omega
    rw [hasBad, if_neg (by simp), Bool.or_eq_false_iff] at hbad
    obtain ⟨hb1, hb2⟩ := hbad
    rw [foldO, if_neg (by simp)] at hm ⊢
    by_cases hs : inSps (Lib.decodeL (b :: z)).1 spaceSps = true
    · rw [if_pos hs] at hm ⊢
      exact fold_good n _ true st m hd hm hb2
    · rw [if_neg hs] at hm ⊢
      have hs' : inSps (Lib.decodeL (b :: z)).1 spaceSps = false := by simpa using hs
      obtain ⟨r, k1, k2, k3, k4⟩ := chunk_read n b z h hs'
      have hc := chunk_ne (b :: z) (by simp)
      have hcl := List.length_pos_iff.2 hc
      have hr : badR r = false := by
        rcases k4 with h | h | h
        · rw [h]; exact hb1
        · exact badR_big h.1
        · exact badR_big (by omega)
      have key : ∀ f, (chunk (b :: z) ++ foldO n ((b :: z).drop (Lib.decodeL (b :: z)).2) false true).length ≤ f →
          hasBad f (chunk (b :: z) ++ foldO n ((b :: z).drop (Lib.decodeL (b :: z)).2) false true) = false := by
        intro f hf
        rw [List.length_append] at hf
        obtain ⟨f, rfl⟩ : ∃ g, f = g + 1 := ⟨f - 1, by omega⟩
        rw [hasBad, if_neg (by simp [hc]), k1]
        simp only
        rw [List.drop_left' rfl, fold_good n _ false true f hd (by omega) hb2, Bool.or_false]
        exact hr
      by_cases hb : (sp && st) = true
      · rw [if_pos hb] at hm ⊢
        simp only [List.cons_append, List.nil_append, List.length_cons] at hm ⊢
        obtain ⟨m, rfl⟩ : ∃ g, m = g + 1 := ⟨m - 1, by omega⟩
        rw [hasBad, if_neg (by simp), blank_decode]
        simp only [List.drop_succ_cons, List.drop_zero]
        rw [key m (by omega)]
        decide
      · rw [if_neg hb] at hm ⊢
        simp only [List.nil_append] at hm ⊢
        exact key m hm

/-- A NAME ASKED FOR BY ITSELF IS ITSELF. -/
theorem name_twice (l : List UInt8) (h : (nameL l).2 = true) : nameL (nameL l).1 = ((nameL l).1, true) ∧ (nameL l).1 = fold l := by
  unfold nameL at h
  split at h
  · cases h
  · rename_i h1
    split at h
    · cases h
    · rename_i h2
      have e : nameL l = (fold l, true) := by unfold nameL; rw [if_neg h1, if_neg h2]
      rw [e]
      refine ⟨?_, rfl⟩
      simp only
      have hg : hasBad (fold l).length (fold l) = false := by
        have := fold_good l.length l false false (fold l).length (Nat.le_refl _) (by rw [← fold_out]; exact Nat.le_refl _) (by simpa using h1)
        rw [← fold_out] at this
        exact this
      unfold nameL
      rw [hg, fold_twice, if_neg (by simp), if_neg h2]

/-! ### blanks around a text -/
theorem decode_tail (b : UInt8) (z : List UInt8) : Lib.decodeL ((b :: z) ++ [9, 32]) = Lib.decodeL (b :: z) := by
  rw [List.cons_append]
  exact decode_conts b _ _ (conts_blank z 9 [32] (by decide))
theorem foldO_tail : ∀ (n : Nat) (l : List UInt8) (sp st : Bool), l.length ≤ n → foldO (n + 2) (l ++ [9, 32]) sp st = foldO n l sp st
  | n, [], sp, st, _ => by
    rw [foldO_nil, List.nil_append]
    have d9 : Lib.decodeL [9, 32] = (9, 1) := Lib.decodeL_ascii 9 [32] (by decide)
    rw [foldO, if_neg (by simp), d9]
    simp only [List.drop_succ_cons, List.drop_zero]
    rw [if_pos (by decide), foldO, if_neg (by simp), blank_decode]
    simp only [List.drop_succ_cons, List.drop_zero]
    rw [if_pos (by decide), foldO_nil]
  | 0, b :: z, sp, st, h => by simp at h
  | n + 1, b :: z, sp, st, h => by
    have hw := Lib.decodeL_width (b :: z)
    have hle := Lib.decodeL_le (b :: z) (by simp)
    have hd : ((b :: z).drop (Lib.decodeL (b :: z)).2).length ≤ n := by rw [List.length_drop]; simp only [List.length_cons] at *; omega
    have e1 : ((b :: z) ++ [9, 32]).drop (Lib.decodeL (b :: z)).2 = (b :: z).drop (Lib.decodeL (b :: z)).2 ++ [9, 32] := List.drop_append_of_le_length hle
    have e2 : chunk ((b :: z) ++ [9, 32]) = chunk (b :: z) := by
      unfold chunk
      rw [decode_tail, List.take_append_of_le_length hle]
    rw [show n + 1 + 2 = (n + 2) + 1 by omega, foldO, if_neg (by simp), decode_tail, e1, e2, foldO_tail n _ true st hd, foldO_tail n _ false true hd]
    conv => rhs; rw [foldO, if_neg (by simp)]
theorem fold_around (l : List UInt8) : fold (32 :: (l ++ [9, 32])) = fold l := by
  rw [fold_out, fold_out, show (32 :: (l ++ [9, 32])).length = (l.length + 2) + 1 by simp, foldO, if_neg (by simp), blank_decode]
  simp only [List.drop_succ_cons, List.drop_zero]
  rw [if_pos (by decide), foldO_start, foldO_tail _ _ _ _ (Nat.le_refl _)]
theorem hasBad_tail : ∀ (n : Nat) (l : List UInt8), l.length ≤ n → hasBad (n + 2) (l ++ [9, 32]) = hasBad n l
  | n, [], _ => by
    rw [hasBad_nil, List.nil_append]
    have d9 : Lib.decodeL [9, 32] = (9, 1) := Lib.decodeL_ascii 9 [32] (by decide)
    rw [hasBad, if_neg (by simp), d9]
    simp only [List.drop_succ_cons, List.drop_zero]
    rw [hasBad, if_neg (by simp), blank_decode]
    simp only [List.drop_succ_cons, List.drop_zero]
    rw [hasBad_nil]
    decide
  | 0, b :: z, h => by simp at h
  | n + 1, b :: z, h => by
    have hw := Lib.decodeL_width (b :: z)
    have hle := Lib.decodeL_le (b :: z) (by simp)
    have hd : ((b :: z).drop (Lib.decodeL (b :: z)).2).length ≤ n := by rw [List.length_drop]; simp only [List.length_cons] at *; omega
    have e1 : ((b :: z) ++ [9, 32]).drop (Lib.decodeL (b :: z)).2 = (b :: z).drop (Lib.decodeL (b :: z)).2 ++ [9, 32] := List.drop_append_of_le_length hle
    rw [show n + 1 + 2 = (n + 2) + 1 by omega, hasBad, if_neg (by simp), decode_tail, e1, hasBad_tail n _ hd]
    conv => rhs; rw [hasBad, if_neg (by simp)]
theorem name_around (l : List UInt8) : nameL (32 :: (l ++ [9, 32])) = nameL l := by
  unfold nameL
  rw [fold_around]
  have : hasBad (32 :: (l ++ [9, 32])).length (32 :: (l ++ [9, 32])) = hasBad l.length l := by
    rw [show (32 :: (l ++ [9, 32])).length = (l.length + 2) + 1 by simp, hasBad, if_neg (by simp), blank_decode]
    simp only [List.drop_succ_cons, List.drop_zero]
    rw [hasBad_tail _ _ (Nat.le_refl _), show (badSigns.any fun b => b.toNat == 32) = false by decide, Bool.false_or]
  rw [this]

end Go.Proofs.YtahljcbmckldhaaGreatDoor

/-
  strings.IndexAny of whatever text, for a set of ASCII bytes.
-/
namespace Go.Proofs.YtahljcbmckldhaaGreatDoor
open Go.RowKit
set_option maxRecDepth 100000
set_option linter.unusedVariables false
set_option linter.unusedSimpArgs false

theorem indexAny_skip (chars : List UInt8) : ∀ (c r : List UInt8), (∀ b ∈ c, chars.contains b = false) → Lib.indexAny (c ++ r) chars = if Lib.indexAny r chars = -1 then -1 else Lib.indexAny r chars + c.length
  | [], r, _ => by
    simp only [List.nil_append, List.length_nil]
    split <;> simp_all
  | b :: c, r, h => by
    have ih := indexAny_skip chars c r (fun x hx => h x (List.mem_cons_of_mem _ hx))
    have hb := h b (List.mem_cons_self ..)
    show (if chars.contains b then (0 : Int) else if Lib.indexAny (c ++ r) chars == -1 then -1 else Lib.indexAny (c ++ r) chars + 1) = _
    have hge := Lib.indexAny_ge chars r
    rw [ih, hb, if_neg (by simp)]
    by_cases h1 : Lib.indexAny r chars = -1
    · rw [if_pos h1, if_pos h1]; rfl
    · rw [if_neg h1, if_neg h1, if_neg (by simp; omega), List.length_cons]
      omega
theorem indexAny_hit (chars : List UInt8) (b : UInt8) (r : List UInt8) (h : chars.contains b = true) : Lib.indexAny (b :: r) chars = 0 := by
  show (if chars.contains b then (0 : Int) else _) = 0
  rw [h]; rfl

theorem special_big : ∀ b : UInt8, 128 ≤ b.toNat → specialL.contains b = false := fun b => allB (p := fun b => 128 ≤ b.toNat → specialL.contains b = false) (by unfold AllB; decide +kernel) b
theorem special_index : ∀ b : UInt8, decide (0 ≤ Lib.indexByte specialL b) = specialL.contains b := fun b => allB (p := fun b => decide (0 ≤ Lib.indexByte specialL b) = specialL.contains b) (by unfold AllB; decide +kernel) b

theorem chunk_big (s : ByteArray) (pos : Nat) (hp : pos < s.size) (h : 128 ≤ s[pos].toNat) : ∀ b ∈ (s.data.toList.drop pos).take (Utf8.decode s pos).2, specialL.contains b = false := by
  intro b hb
  have hd := drop_at s pos hp
  have hw := Lib.decodeL_width (s.data.toList.drop pos)
  have hc := (width_conts s[pos] (s.data.toList.drop (pos + 1))).1
  rw [← hd, Lib.decodeL_drop] at hc
  rw [Lib.decodeL_drop] at hw
  rw [hd, List.take_cons (by omega)] at hb
  rcases List.mem_cons.1 hb with e | e
  · rw [e]; exact special_big _ h
  · have := hc b e
    unfold isCont at this
    refine special_big _ ?_
    simp at this
    omega

def spBa : ByteArray := ⟨#[0, 92, 38, 96, 60, 42, 95, 33, 91, 93, 10, 32]⟩

set_option maxHeartbeats 4000000 in
theorem indexAny_short (s : ByteArray) (w : World) (h8 : s.size ≤ 8) :
    Calls Tryz.prog 24 #[.string s, .string ⟨#[0, 92, 38, 96, 60, 42, 95, 33, 91, 93, 10, 32]⟩] w fun e w' => e = .returned (.int .i64 (Lib.indexAny s.data.toList specialL)) ∧ Below w.heap.size w w' := by
  have hu := fun W => Any.strings_shouldUseASCIISet Tryz.lays226 (s.size : Int) W
  have h8' : decide ((8 : Int) < (s.size : Int)) = false := by simp; omega
  rw [h8'] at hu
  have HU := Lib.hid hu
  clear hu
  have he : (ByteArray.mk #[0, 92, 38, 96, 60, 42, 95, 33, 91, 93, 10, 32]).toList.isEmpty = false := by rw [Lib.toList_data]; rfl
  go_enter Tryz.func24, Tryz.ntmps24
  go_wp2_with fail
  refine (HU.out _).mono ?_
  rintro e w' ⟨rfl, hw'⟩
  obtain rfl := hw'.symm
  go_wp2_with fail
  go_loopw [] (fun wr => ∃ pos : Nat, wr.heap[w.heap.size]? = some (.stringIter s pos) ∧ Below w.heap.size w wr ∧ pos ≤ s.size ∧ Lib.indexAny s.data.toList specialL = (if Lib.indexAny (s.data.toList.drop pos) specialL = -1 then -1 else Lib.indexAny (s.data.toList.drop pos) specialL + pos)) (fun wr => s.size - wr.iterPos w.heap.size)
  case atStart =>
    refine ⟨0, ?_, (Below.refl _ w).alloc (Nat.le_refl _) _, by omega, ?_⟩
    · have := World.iter_heap w s 0
      simpa using this
    · rw [List.drop_zero]
      split
      · assumption
      · omega
  case round =>
    obtain ⟨pos, hit, hbw, hps, hix⟩ := hrel
    have hsz : w.heap.size < wr.heap.size := (Array.getElem?_eq_some_iff.1 hit).1
    by_cases hp : pos < s.size
    · have hnx : ∀ ty, (Instr.next (.pointer (some ⟨w.heap.size, 0, none⟩)) true ty).run Tryz.prog wr = _ := fun ty => Lib.run_next_any_at wr w.heap.size s pos ty hit hp
      have hit2 := Lib.iterAt_heap wr w.heap.size s pos (pos + (Utf8.decode s pos).2) hit
      have hbw2 := Lib.below_iterAt hbw (k := w.heap.size) (by omega) s (pos + (Utf8.decode s pos).2)
      have hda := drop_at s pos hp
      have hge := Lib.indexAny_ge specialL (s.data.toList.drop (pos + 1))
      obtain ⟨c, hc⟩ : ∃ c, s[pos] = c := ⟨_, rfl⟩
      by_cases hasc : c.toNat < 128
      · rw [Go.decode_ascii s pos hp (by rw [hc]; exact hasc), hc] at hnx
        rw [Go.decode_ascii s pos hp (by rw [hc]; exact hasc)] at hit2 hbw2
        simp only at hnx hit2 hbw2
        rw [hc] at hda
        have hi0 : (0 : Int) ≤ (c.toNat : Int) := by omega
        have hi1 : (c.toNat : Int) < 128 := by omega
        have hir := fun W => Tryz.strings_IndexRune_ascii ⟨#[0, 92, 38, 96, 60, 42, 95, 33, 91, 93, 10, 32]⟩ (c.toNat : Int) W hi0 hi1
        have hsi := special_index c
        rw [show (ByteArray.mk #[0, 92, 38, 96, 60, 42, 95, 33, 91, 93, 10, 32]).data.toList = specialL from rfl, show ((c.toNat : Int).toNat.toUInt8) = c by rw [Int.toNat_natCast]; simp] at hir
        obtain ⟨k, hk⟩ : ∃ k, Lib.indexByte specialL c = k := ⟨_, rfl⟩
        rw [hk] at hir hsi
        have HIR := Lib.hid hir
        clear hir hk hbw
        cases hsp : specialL.contains c
        · rw [hsp, decide_eq_false_iff_not] at hsi
          have hn := indexAny_skip specialL [c] (s.data.toList.drop (pos + 1)) (fun b hb => by rw [List.mem_singleton.1 hb]; exact hsp)
          rw [hda, show c :: s.data.toList.drop (pos + 1) = [c] ++ s.data.toList.drop (pos + 1) from rfl, hn] at hix
          have HN := Lib.hid (show Lib.indexAny s.data.toList specialL = (if Lib.indexAny (s.data.toList.drop (pos + 1)) specialL = -1 then -1 else Lib.indexAny (s.data.toList.drop (pos + 1)) specialL + ((pos + 1 : Nat) : Int)) by
            rw [hix]
            by_cases h1 : Lib.indexAny (s.data.toList.drop (pos + 1)) specialL = -1
            · rw [if_pos h1, if_pos h1, if_pos rfl]
            · rw [if_neg h1, if_neg h1, if_neg (by simp; omega)]
              simp; omega)
          clear hix hn hda hc
          go_wp2_with fail
          refine (HIR.out _).mono ?_
          rintro e w' ⟨rfl, hw'⟩
          obtain rfl := hw'.symm
          go_wp2_with fail
          go_roundw
          case rel => exact ⟨pos + 1, hit2, hbw2, by omega, HN.out⟩
          case measure => simp only [World.iterPos, hit2, hit]; omega
        · rw [hsp, decide_eq_true_eq] at hsi
          rw [hda, indexAny_hit specialL c _ hsp, if_neg (by omega)] at hix
          have HN := Lib.hid hix
          clear hix hda hc
          go_wp2_with fail
          refine (HIR.out _).mono ?_
          rintro e w' ⟨rfl, hw'⟩
          obtain rfl := hw'.symm
          go_wp2_with fail
          go_ret
          exact ⟨ret_int (by rw [HN.out]; omega), hbw2⟩
      · have hbig := decode_big s pos hp (by rw [hc]; omega)
        have hcb := chunk_big s pos hp (by rw [hc]; omega)
        have hrl := Lib.decodeL_rune (s.data.toList.drop pos)
        have hwl := Lib.decodeL_le (s.data.toList.drop pos) (by rw [hda]; simp)
        have hwd := Lib.decodeL_width (s.data.toList.drop pos)
        rw [Lib.decodeL_drop] at hrl hwl hwd
        obtain ⟨r, n, hrn⟩ : ∃ r n, Utf8.decode s pos = (r, n) := ⟨_, _, rfl⟩
        rw [hrn] at hnx hit2 hbw2 hbig hcb hrl hwl hwd
        simp only at hnx hit2 hbw2 hbig hcb hrl hwl hwd
        rw [List.length_drop, ← Lib.size_eq] at hwl
        have hir := fun W => indexRune_big ⟨#[0, 92, 38, 96, 60, 42, 95, 33, 91, 93, 10, 32]⟩ (r : Int) W (by unfold AllAscii; decide) (by decide) (by omega) (by omega)
        have hn := indexAny_skip specialL ((s.data.toList.drop pos).take n) ((s.data.toList.drop pos).drop n) hcb
        rw [List.take_append_drop, List.drop_drop, List.length_take, List.length_drop, ← Lib.size_eq, show min n (s.size - pos) = n by omega] at hn
        rw [hn] at hix
        have hge2 := Lib.indexAny_ge specialL (s.data.toList.drop (pos + n))
        have HN := Lib.hid (show Lib.indexAny s.data.toList specialL = (if Lib.indexAny (s.data.toList.drop (pos + n)) specialL = -1 then -1 else Lib.indexAny (s.data.toList.drop (pos + n)) specialL + ((pos + n : Nat) : Int)) by
          rw [hix]
          by_cases h1 : Lib.indexAny (s.data.toList.drop (pos + n)) specialL = -1
          · rw [if_pos h1, if_pos h1, if_pos rfl]
          · rw [if_neg h1, if_neg h1, if_neg (by omega)]
            omega)
        have HIR := Lib.hid hir
        clear hir hix hn hda hc hrn hcb
        go_wp2_with fail
        refine (HIR.out _).mono ?_
        rintro e w' ⟨rfl, b3⟩
        have hit3 := iter_below hit2 b3
        have hbw3 := below_step hbw2 b3
        go_wp2_with fail
        go_roundw
        case rel => exact ⟨pos + n, hit3, hbw3, by omega, HN.out⟩
        case measure => simp only [World.iterPos, hit3, hit]; omega
    · have hnx : ∀ ty, (Instr.next (.pointer (some ⟨w.heap.size, 0, none⟩)) true ty).run Tryz.prog wr = _ := fun ty => Lib.run_next_end_at wr w.heap.size s pos ty hit hp
      rw [drop_end s pos (by omega), if_pos (by rfl)] at hix
      have HN := Lib.hid hix
      clear hix
      go_wp2_with fail
      go_ret
      exact ⟨ret_int HN.out.symm, hbw⟩

/-- strings.IndexAny of whatever text, for the signs with which tokens begin. -/
theorem indexAny_any (s : ByteArray) (w : World) (hs : s.size ≤ 1000000000) :
    Calls Tryz.prog 24 #[.string s, .string ⟨#[0, 92, 38, 96, 60, 42, 95, 33, 91, 93, 10, 32]⟩] w fun e w' => e = .returned (.int .i64 (Lib.indexAny s.data.toList specialL)) ∧ Below w.heap.size w w' := by
  by_cases h8 : s.size ≤ 8
  · exact indexAny_short s w h8
  · have hz : (Tryz.prog.info? 120).map (fun i => (i.zero, i.size)) = some (some (.agg (Array.replicate 256 (.bool false))), 256) := by kernel_rfl
    refine (Any.strings_IndexAny_long Tryz.lays153 (zero_of_info hz).1 (zero_of_info hz).2 s ⟨#[0, 92, 38, 96, 60, 42, 95, 33, 91, 93, 10, 32]⟩ w (by decide) (by omega) (by omega) (by decide) (ascii_of_all (by decide))).mono ?_
    rintro e w' ⟨rfl, rfl⟩
    exact ⟨rfl, ((Below.refl _ w).alloc (Nat.le_refl _) _).alloc (by simp) _⟩

end Go.Proofs.YtahljcbmckldhaaGreatDoor

/-
  strings.IndexAny, ContainsAny of whatever text, for the signs that no name between brackets has.
-/
namespace Go.Proofs.YtahljcbmckldhaaGreatDoor
open Go.RowKit
set_option maxRecDepth 100000
set_option linter.unusedVariables false
set_option linter.unusedSimpArgs false

def twoL : List UInt8 := [91, 0]
theorem two_big : ∀ b : UInt8, 128 ≤ b.toNat → twoL.contains b = false := fun b => allB (p := fun b => 128 ≤ b.toNat → twoL.contains b = false) (by unfold AllB; decide +kernel) b
theorem two_index : ∀ b : UInt8, decide (0 ≤ Lib.indexByte twoL b) = twoL.contains b := fun b => allB (p := fun b => decide (0 ≤ Lib.indexByte twoL b) = twoL.contains b) (by unfold AllB; decide +kernel) b

theorem chunk_two (s : ByteArray) (pos : Nat) (hp : pos < s.size) (h : 128 ≤ s[pos].toNat) : ∀ b ∈ (s.data.toList.drop pos).take (Utf8.decode s pos).2, twoL.contains b = false := by
  intro b hb
  have hd := drop_at s pos hp
  have hw := Lib.decodeL_width (s.data.toList.drop pos)
  have hc := (width_conts s[pos] (s.data.toList.drop (pos + 1))).1
  rw [← hd, Lib.decodeL_drop] at hc
  rw [Lib.decodeL_drop] at hw
  rw [hd, List.take_cons (by omega)] at hb
  rcases List.mem_cons.1 hb with e | e
  · rw [e]; exact two_big _ h
  · have := hc b e
    unfold isCont at this
    refine two_big _ ?_
    simp at this
    omega

def twBa : ByteArray := ⟨#[91, 0]⟩

set_option maxHeartbeats 4000000 in
theorem indexTwo_short (s : ByteArray) (w : World) (h8 : s.size ≤ 8) :
    Calls Tryz.prog 24 #[.string s, .string ⟨#[91, 0]⟩] w fun e w' => e = .returned (.int .i64 (Lib.indexAny s.data.toList twoL)) ∧ Below w.heap.size w w' := by
  have hu := fun W => Any.strings_shouldUseASCIISet Tryz.lays226 (s.size : Int) W
  have h8' : decide ((8 : Int) < (s.size : Int)) = false := by simp; omega
  rw [h8'] at hu
  have HU := Lib.hid hu
  clear hu
  have he : (ByteArray.mk #[91, 0]).toList.isEmpty = false := by rw [Lib.toList_data]; rfl
  go_enter Tryz.func24, Tryz.ntmps24
  go_wp2_with fail
  refine (HU.out _).mono ?_
  rintro e w' ⟨rfl, hw'⟩
  obtain rfl := hw'.symm
  go_wp2_with fail
  go_loopw [] (fun wr => ∃ pos : Nat, wr.heap[w.heap.size]? = some (.stringIter s pos) ∧ Below w.heap.size w wr ∧ pos ≤ s.size ∧ Lib.indexAny s.data.toList twoL = (if Lib.indexAny (s.data.toList.drop pos) twoL = -1 then -1 else Lib.indexAny (s.data.toList.drop pos) twoL + pos)) (fun wr => s.size - wr.iterPos w.heap.size)
  case atStart =>
    refine ⟨0, ?_, (Below.refl _ w).alloc (Nat.le_refl _) _, by omega, ?_⟩
    · have := World.iter_heap w s 0
      simpa using this
    · rw [List.drop_zero]
      split
      · assumption
      · omega
  case round =>
    obtain ⟨pos, hit, hbw, hps, hix⟩ := hrel
    have hsz : w.heap.size < wr.heap.size := (Array.getElem?_eq_some_iff.1 hit).1
    by_cases hp : pos < s.size
    · have hnx : ∀ ty, (Instr.next (.pointer (some ⟨w.heap.size, 0, none⟩)) true ty).run Tryz.prog wr = _ := fun ty => Lib.run_next_any_at wr w.heap.size s pos ty hit hp
      have hit2 := Lib.iterAt_heap wr w.heap.size s pos (pos + (Utf8.decode s pos).2) hit
      have hbw2 := Lib.below_iterAt hbw (k := w.heap.size) (by omega) s (pos + (Utf8.decode s pos).2)
      have hda := drop_at s pos hp
      have hge := Lib.indexAny_ge twoL (s.data.toList.drop (pos + 1))
      obtain ⟨c, hc⟩ : ∃ c, s[pos] = c := ⟨_, rfl⟩
      by_cases hasc : c.toNat < 128
      · rw [Go.decode_ascii s pos hp (by rw [hc]; exact hasc), hc] at hnx
        rw [Go.decode_ascii s pos hp (by rw [hc]; exact hasc)] at hit2 hbw2
        simp only at hnx hit2 hbw2
        rw [hc] at hda
        have hi0 : (0 : Int) ≤ (c.toNat : Int) := by omega
        have hi1 : (c.toNat : Int) < 128 := by omega
        have hir := fun W => Tryz.strings_IndexRune_ascii ⟨#[91, 0]⟩ (c.toNat : Int) W hi0 hi1
        have hsi := two_index c
        rw [show (ByteArray.mk #[91, 0]).data.toList = twoL from rfl, show ((c.toNat : Int).toNat.toUInt8) = c by rw [Int.toNat_natCast]; simp] at hir
        obtain ⟨k, hk⟩ : ∃ k, Lib.indexByte twoL c = k := ⟨_, rfl⟩
        rw [hk] at hir hsi
        have HIR := Lib.hid hir
        clear hir hk hbw
        cases hsp : twoL.contains c
        · rw [hsp, decide_eq_false_iff_not] at hsi
          have hn := indexAny_skip twoL [c] (s.data.toList.drop (pos + 1)) (fun b hb => by rw [List.mem_singleton.1 hb]; exact hsp)
          rw [hda, show c :: s.data.toList.drop (pos + 1) = [c] ++ s.data.toList.drop (pos + 1) from rfl, hn] at hix
          have HN := Lib.hid (show Lib.indexAny s.data.toList twoL = (if Lib.indexAny (s.data.toList.drop (pos + 1)) twoL = -1 then -1 else Lib.indexAny (s.data.toList.drop (pos + 1)) twoL + ((pos + 1 : Nat) : Int)) by
            rw [hix]
            by_cases h1 : Lib.indexAny (s.data.toList.drop (pos + 1)) twoL = -1
            · rw [if_pos h1, if_pos h1, if_pos rfl]
            · rw [if_neg h1, if_neg h1, if_neg (by simp; omega)]
              simp; omega)
          clear hix hn hda hc
          go_wp2_with fail
          refine (HIR.out _).mono ?_
          rintro e w' ⟨rfl, hw'⟩
          obtain rfl := hw'.symm
          go_wp2_with fail
          go_roundw
          case rel => exact ⟨pos + 1, hit2, hbw2, by omega, HN.out⟩
          case measure => simp only [World.iterPos, hit2, hit]; omega
        · rw [hsp, decide_eq_true_eq] at hsi
          rw [hda, indexAny_hit twoL c _ hsp, if_neg (by omega)] at hix
          have HN := Lib.hid hix
          clear hix hda hc
          go_wp2_with fail
          refine (HIR.out _).mono ?_
          rintro e w' ⟨rfl, hw'⟩
          obtain rfl := hw'.symm
          go_wp2_with fail
          go_ret
          exact ⟨ret_int (by rw [HN.out]; omega), hbw2⟩
      · have hbig := decode_big s pos hp (by rw [hc]; omega)
        have hcb := chunk_two s pos hp (by rw [hc]; omega)
        have hrl := Lib.decodeL_rune (s.data.toList.drop pos)
        have hwl := Lib.decodeL_le (s.data.toList.drop pos) (by rw [hda]; simp)
        have hwd := Lib.decodeL_width (s.data.toList.drop pos)
        rw [Lib.decodeL_drop] at hrl hwl hwd
        obtain ⟨r, n, hrn⟩ : ∃ r n, Utf8.decode s pos = (r, n) := ⟨_, _, rfl⟩
        rw [hrn] at hnx hit2 hbw2 hbig hcb hrl hwl hwd
        simp only at hnx hit2 hbw2 hbig hcb hrl hwl hwd
        rw [List.length_drop, ← Lib.size_eq] at hwl
        have hir := fun W => indexRune_big ⟨#[91, 0]⟩ (r : Int) W (by unfold AllAscii; decide) (by decide) (by omega) (by omega)
        have hn := indexAny_skip twoL ((s.data.toList.drop pos).take n) ((s.data.toList.drop pos).drop n) hcb
        rw [List.take_append_drop, List.drop_drop, List.length_take, List.length_drop, ← Lib.size_eq, show min n (s.size - pos) = n by omega] at hn
        rw [hn] at hix
        have hge2 := Lib.indexAny_ge twoL (s.data.toList.drop (pos + n))
        have HN := Lib.hid (show Lib.indexAny s.data.toList twoL = (if Lib.indexAny (s.data.toList.drop (pos + n)) twoL = -1 then -1 else Lib.indexAny (s.data.toList.drop (pos + n)) twoL + ((pos + n : Nat) : Int)) by
          rw [hix]
          by_cases h1 : Lib.indexAny (s.data.toList.drop (pos + n)) twoL = -1
          · rw [if_pos h1, if_pos h1, if_pos rfl]
          · rw [if_neg h1, if_neg h1, if_neg (by omega)]
            omega)
        have HIR := Lib.hid hir
        clear hir hix hn hda hc hrn hcb
        go_wp2_with fail
        refine (HIR.out _).mono ?_
        rintro e w' ⟨rfl, b3⟩
        have hit3 := iter_below hit2 b3
        have hbw3 := below_step hbw2 b3
        go_wp2_with fail
        go_roundw
        case rel => exact ⟨pos + n, hit3, hbw3, by omega, HN.out⟩
        case measure => simp only [World.iterPos, hit3, hit]; omega
    · have hnx : ∀ ty, (Instr.next (.pointer (some ⟨w.heap.size, 0, none⟩)) true ty).run Tryz.prog wr = _ := fun ty => Lib.run_next_end_at wr w.heap.size s pos ty hit hp
      rw [drop_end s pos (by omega), if_pos (by rfl)] at hix
      have HN := Lib.hid hix
      clear hix
      go_wp2_with fail
      go_ret
      exact ⟨ret_int HN.out.symm, hbw⟩

/-- strings.IndexAny of whatever text, for those signs. -/
theorem indexTwo_any (s : ByteArray) (w : World) (hs : s.size ≤ 1000000000) :
    Calls Tryz.prog 24 #[.string s, .string ⟨#[91, 0]⟩] w fun e w' => e = .returned (.int .i64 (Lib.indexAny s.data.toList twoL)) ∧ Below w.heap.size w w' := by
  by_cases h8 : s.size ≤ 8
  · exact indexTwo_short s w h8
  · have hz : (Tryz.prog.info? 120).map (fun i => (i.zero, i.size)) = some (some (.agg (Array.replicate 256 (.bool false))), 256) := by kernel_rfl
    refine (Any.strings_IndexAny_long Tryz.lays153 (zero_of_info hz).1 (zero_of_info hz).2 s ⟨#[91, 0]⟩ w (by decide) (by omega) (by omega) (by decide) (ascii_of_all (by decide))).mono ?_
    rintro e w' ⟨rfl, rfl⟩
    exact ⟨rfl, ((Below.refl _ w).alloc (Nat.le_refl _) _).alloc (by simp) _⟩

theorem two_any (l : List UInt8) : decide (0 ≤ Lib.indexAny l twoL) = l.any (fun c => c == 91 || c == 0) := by
  induction l with
  | nil => rfl
  | cons b l ih =>
    have hge := Lib.indexAny_ge twoL l
    show decide (0 ≤ (if twoL.contains b then (0 : Int) else if Lib.indexAny l twoL == -1 then -1 else Lib.indexAny l twoL + 1)) = _
    rw [List.any_cons, ← ih]
    have hb : twoL.contains b = (b == 91 || b == 0) := by
      show ([91, 0] : List UInt8).contains b = _
      simp only [List.contains_cons, List.contains_nil, Bool.or_false]
    rw [hb]
    cases (b == 91 || b == 0)
    · rw [if_neg (by simp), Bool.false_or]
      by_cases h1 : Lib.indexAny l twoL = -1
      · rw [h1]; rfl
      · rw [if_neg (by simpa using h1)]
        rw [decide_eq_true (by omega : 0 ≤ Lib.indexAny l twoL + 1), decide_eq_true (by omega : 0 ≤ Lib.indexAny l twoL)]
    · rfl
theorem containsTwo_any (s : ByteArray) (w : World) (hs : s.size ≤ 1000000000) :
    Calls Tryz.prog 83 #[.string s, .string ⟨#[91, 0]⟩] w fun e w' => e = .returned (.bool (s.data.toList.any (fun c => c == 91 || c == 0))) ∧ Below w.heap.size w w' := by
  have HI := Lib.hid (indexTwo_any s w hs)
  have H2 := Lib.hid (two_any s.data.toList)
  obtain ⟨k, hk⟩ : ∃ k, Lib.indexAny s.data.toList twoL = k := ⟨_, rfl⟩
  rw [hk] at HI H2
  clear hk
  go_enter Tryz.func83, Tryz.ntmps83
  go_wp2_with fail
  refine HI.out.mono ?_
  rintro e w2 ⟨rfl, b2⟩
  go_wp2_with fail
  go_ret
  exact ⟨ret_bool H2.out, b2⟩

end Go.Proofs.YtahljcbmckldhaaGreatDoor

/-
  Nodes, items and pieces in memory.
-/
namespace Go.Proofs.YtahljcbmckldhaaGreatDoor
open Go.RowKit
set_option linter.unusedVariables false
set_option linter.unusedSimpArgs false

theorem infoInl : (Tryz.prog.info? 28).map (fun i => (i.zero, i.size, i.bytes)) = some (some (.agg #[.int .i64 0, .int .i64 0, .string ⟨#[]⟩, .string ⟨#[]⟩, .string ⟨#[]⟩]), 5, 64) := by kernel_rfl
theorem infoItem : (Tryz.prog.info? 95).map (fun i => (i.zero, i.size, i.bytes)) = some (some (.agg #[.int .u8 0, .int .i64 0, .bool false, .bool false, .slice none 0 0]), 5, 48) := by kernel_rfl
theorem infoPiece : (Tryz.prog.info? 104).map (fun i => (i.zero, i.size, i.bytes)) = some (some (.agg #[.int .u8 0, .int .i64 0, .bool false, .bool false, .slice none 0 0, .int .i64 0, .bool false]), 7, 64) := by kernel_rfl

theorem inl_len (x : Inl) : (Inl.cells x).length = 5 := rfl
theorem inlCells_len (l : List Inl) : (inlCells l).length = l.length * 5 := flat_len Inl.cells 5 inl_len l
theorem inlCells_append (a b : List Inl) : inlCells (a ++ b) = inlCells a ++ inlCells b := by unfold inlCells; rw [List.flatMap_append]
theorem inlCells_one (x : Inl) : inlCells [x] = Inl.cells x := by unfold inlCells; rw [List.flatMap_cons, List.flatMap_nil, List.append_nil]
theorem inl_oneCell (l : List Inl) : ∀ u ∈ inlCells l, u.oneCell' = true := by
  intro u hu
  obtain ⟨x, _, hx⟩ := List.mem_flatMap.1 hu
  simp [Inl.cells] at hx
  rcases hx with rfl | rfl | rfl | rfl | rfl <;> rfl

/-- A row of nodes. -/
def InlsAt (w : World) (v : Value) (l : List Inl) : Prop := w.ownsRow 0 28 5 v l.length (inlCells l)
theorem InlsAt.below {w w' : World} {v : Value} {l : List Inl} (h : InlsAt w v l) (hb : Below w.heap.size w w') : InlsAt w' v l := own_below h hb
theorem InlsAt.alloc {w : World} {v : Value} {l : List Inl} (h : InlsAt w v l) (o : Obj) : InlsAt (w.alloc o) v l := World.ownsRow.alloc h o
theorem InlsAt.nil (w : World) : InlsAt w (.slice none 0 0) [] := World.ownsRow_nil _ _ _ _
theorem InlsAt.of {w : World} {base : Nat} {v : Value} {l : List Inl} (h : w.ownsRow base 28 5 v l.length (inlCells l)) : InlsAt w v l := own_mono h (Nat.zero_le _)
/-- A literal row of one node, new. -/
theorem InlsAt.one (w : World) (x : Inl) (b : Nat) (hb : b = w.heap.size) : InlsAt (w.alloc (.cells #[.int .i64 (x.kind : Int), .int .i64 (x.depth : Int), .string ⟨x.text.toArray⟩, .string ⟨x.url.toArray⟩, .string ⟨x.title.toArray⟩] 28)) (.slice (some ⟨b, 0, none⟩) 1 1) [x] := by
  subst hb
  have := World.ownsRow_lit (base := 0) (e := 28) (size := 5) w #[.int .i64 (x.kind : Int), .int .i64 (x.depth : Int), .string ⟨x.text.toArray⟩, .string ⟨x.url.toArray⟩, .string ⟨x.title.toArray⟩] 1 (Nat.zero_le _) (by unfold maxLen; omega) rfl
  unfold InlsAt
  rw [inlCells_one]
  exact this

/-- The five cells of a node in a row that is read from anywhere. -/
theorem RowR.inl {w : World} {g o n : Nat} {l : List Inl} (h : RowR w 5 (some ⟨g, o, none⟩) n (inlCells l)) (k : Nat) (x : Inl) (hk : l[k]? = some x) :
    w.cell? ⟨g, o + k * 5, none⟩ = some (.int .i64 (x.kind : Int)) ∧ w.cell? ⟨g, o + k * 5 + 1, none⟩ = some (.int .i64 (x.depth : Int)) ∧ w.cell? ⟨g, o + k * 5 + 2, none⟩ = some (.string ⟨x.text.toArray⟩) ∧ w.cell? ⟨g, o + k * 5 + 3, none⟩ = some (.string ⟨x.url.toArray⟩) ∧ w.cell? ⟨g, o + k * 5 + 4, none⟩ = some (.string ⟨x.title.toArray⟩) :=
  ⟨h.cell inl_len k 0 x _ hk (by omega) rfl, h.cell inl_len k 1 x _ hk (by omega) rfl, h.cell inl_len k 2 x _ hk (by omega) rfl, h.cell inl_len k 3 x _ hk (by omega) rfl, h.cell inl_len k 4 x _ hk (by omega) rfl⟩
/-- The address of a row that is not empty. -/
theorem RowR.addr {w : World} {size n : Nat} {ao : Option Addr} {xs : List Value} (h : RowR w size ao n xs) (hn : 0 < n) : ∃ g o, ao = some ⟨g, o, none⟩ := by
  cases ao with
  | none => have := h.non rfl; omega
  | some ad =>
    obtain ⟨g, o, sp⟩ := ad
    obtain rfl : sp = none := (h.at' _ rfl).1
    exact ⟨g, o, rfl⟩

/-- A store into a block of another kind leaves a row as it is. -/
theorem own_setCell {w : World} {base : Nat} {e e' : TypeId} {size : Nat} {v : Value} {n : Nat} {xs : List Value} (h : w.ownsRow base e size v n xs) {a : Addr} {cs : Array Value} {fr : Nat × Nat} (hg : w.heap[a.block]? = some (.cells cs e' fr)) (he : e ≠ e') (u : Value) : (w.setCell a u).ownsRow base e size v n xs := by
  obtain ⟨h1, h2⟩ := h
  refine ⟨h1, ?_⟩
  rcases h2 with h2 | ⟨g, cap, cur, hv, hb, hh, r⟩
  · exact Or.inl h2
  · refine Or.inr ⟨g, cap, cur, hv, hb, ?_, r⟩
    rw [Below.heap_setCell _ _ _ _ (fun e0 => by subst e0; rw [hh] at hg; simp at hg; exact he hg.2.1), hh]
theorem InlsAt.setCell {w : World} {v : Value} {l : List Inl} (h : InlsAt w v l) {a : Addr} {cs : Array Value} {e' : TypeId} {fr : Nat × Nat} (hg : w.heap[a.block]? = some (.cells cs e' fr)) (he : 28 ≠ e') (u : Value) : InlsAt (w.setCell a u) v l := own_setCell h hg he u

/-- An item and where its nodes lie; a piece, likewise. -/
abbrev ItemV := IItem × Value
abbrev PieceV := Piece × Value
def itemCells (x : ItemV) : List Value := [.int .u8 (x.1.sign.toNat : Int), .int .i64 (x.1.n : Int), .bool x.1.op, .bool x.1.cl, x.2]
def itemVal (x : ItemV) : Value := .agg #[.int .u8 (x.1.sign.toNat : Int), .int .i64 (x.1.n : Int), .bool x.1.op, .bool x.1.cl, x.2]
def pieceCells (x : PieceV) : List Value := [.int .u8 (x.1.it.sign.toNat : Int), .int .i64 (x.1.it.n : Int), .bool x.1.it.op, .bool x.1.it.cl, x.2, .int .i64 (x.1.left : Int), .bool x.1.shut]
def pieceVal (x : PieceV) : Value := .agg #[.int .u8 (x.1.it.sign.toNat : Int), .int .i64 (x.1.it.n : Int), .bool x.1.it.op, .bool x.1.it.cl, x.2, .int .i64 (x.1.left : Int), .bool x.1.shut]
theorem item_len (x : ItemV) : (itemCells x).length = 5 := rfl
theorem piece_len (x : PieceV) : (pieceCells x).length = 7 := rfl
def InlsVals (w : World) (v : Value) : Prop := ∃ l, InlsAt w v l
theorem slice_oneCell {w : World} {v : Value} {l : List Inl} (h : InlsAt w v l) : v.oneCell' = true := by
  obtain ⟨ao, c, rfl, _⟩ := own_slice h
  rfl

/-- The row of a node, as it is laid ahead of an append. -/
theorem cell_oneCell (x : Inl) : ∀ u ∈ [Value.int .i64 (x.kind : Int), .int .i64 (x.depth : Int), .string ⟨x.text.toArray⟩, .string ⟨x.url.toArray⟩, .string ⟨x.title.toArray⟩], u.oneCell' = true := by
  intro u hu; simp at hu; rcases hu with rfl | rfl | rfl | rfl | rfl <;> rfl

end Go.Proofs.YtahljcbmckldhaaGreatDoor

/-
  inline.parser: asked, link: what a pair of brackets is.
-/
namespace Go.Proofs.YtahljcbmckldhaaGreatDoor
open Go.RowKit
set_option maxRecDepth 100000
set_option linter.unusedVariables false
set_option linter.unusedSimpArgs false

theorem drop_askd {α : Type} (p : α → Bool) : ∀ l : List α, l.dropWhile p = [] ↔ ∀ x ∈ l, p x = true
  | [] => by simp
  | x :: l => by
    rw [List.dropWhile_cons]
    split
    · rename_i h
      rw [drop_askd p l]
      constructor
      · intro h2 y hy
        rcases List.mem_cons.1 hy with rfl | hy
        · exact h
        · exact h2 y hy
      · intro h2 y hy
        exact h2 y (List.mem_cons_of_mem _ hy)
    · rename_i h
      constructor
      · intro h2; cases h2
      · intro h2; exact absurd (h2 x (List.mem_cons_self ..)) h
theorem trim_askd (l cs : List UInt8) : Lib.trimS l cs = [] ↔ l.any (fun c => !(cs.contains c)) = false := by
  unfold Lib.trimS Lib.trimLeftS Lib.trimRightS
  rw [drop_askd, Bool.eq_false_iff]
  constructor
  · intro h hany
    obtain ⟨c, hc, hc2⟩ := List.any_eq_true.1 hany
    have hne : (l.reverse.dropWhile (cs.contains ·)) ≠ [] := by
      intro h0
      rw [drop_askd] at h0
      rw [h0 c (List.mem_reverse.2 hc)] at hc2
      cases hc2
    obtain ⟨x, r, hxr⟩ : ∃ x r, l.reverse.dropWhile (cs.contains ·) = x :: r := by
      cases h1 : l.reverse.dropWhile (cs.contains ·) with
      | nil => exact absurd h1 hne
      | cons x r => exact ⟨x, r, rfl⟩
    have hx := List.head?_dropWhile_not (cs.contains ·) l.reverse
    rw [hxr] at hx
    have h2 := h x (by rw [hxr]; simp)
    simp only [List.head?_cons] at hx
    rw [h2] at hx
    cases hx
  · intro h c hc
    have hm : c ∈ l := by
      rw [List.mem_reverse] at hc
      exact List.mem_reverse.1 ((List.dropWhile_sublist _).subset hc)
    cases hcc : cs.contains c with
    | true => rfl
    | false => exact absurd (List.any_eq_true.2 ⟨c, hm, by rw [hcc]; rfl⟩) h

/-- The cell in which a node is handed back, still as it was laid. -/
theorem zero_inl {w w2 : World} {n : Nat} (hb : Below n (w.alloc (.cells #[.int .i64 0, .int .i64 0, .string ⟨#[]⟩, .string ⟨#[]⟩, .string ⟨#[]⟩] 28)) w2) (hn : n = w.heap.size + 1 := by simp) :
    w2.cell? ⟨w.heap.size, 0, none⟩ = some (.int .i64 0) ∧ w2.cell? ⟨w.heap.size, 1, none⟩ = some (.int .i64 0) ∧ w2.cell? ⟨w.heap.size, 2, none⟩ = some (.string ⟨#[]⟩) ∧ w2.cell? ⟨w.heap.size, 3, none⟩ = some (.string ⟨#[]⟩) ∧ w2.cell? ⟨w.heap.size, 4, none⟩ = some (.string ⟨#[]⟩) ∧
    w2.frozen? ⟨w.heap.size, 0, none⟩ = false ∧ w2.frozen? ⟨w.heap.size, 1, none⟩ = false ∧ w2.frozen? ⟨w.heap.size, 2, none⟩ = false ∧ w2.frozen? ⟨w.heap.size, 3, none⟩ = false ∧ w2.frozen? ⟨w.heap.size, 4, none⟩ = false ∧ w.heap.size < w2.heap.size := by
  subst hn
  refine ⟨(hb.cell (p := ⟨w.heap.size, 0, none⟩) (by simp)).trans (by simp), (hb.cell (p := ⟨w.heap.size, 1, none⟩) (by simp)).trans (by simp), (hb.cell (p := ⟨w.heap.size, 2, none⟩) (by simp)).trans (by simp), (hb.cell (p := ⟨w.heap.size, 3, none⟩) (by simp)).trans (by simp), (hb.cell (p := ⟨w.heap.size, 4, none⟩) (by simp)).trans (by simp), (hb.frozen (p := ⟨w.heap.size, 0, none⟩) (by simp)).trans (by simp), (hb.frozen (p := ⟨w.heap.size, 1, none⟩) (by simp)).trans (by simp), (hb.frozen (p := ⟨w.heap.size, 2, none⟩) (by simp)).trans (by simp), (hb.frozen (p := ⟨w.heap.size, 3, none⟩) (by simp)).trans (by simp), (hb.frozen (p := ⟨w.heap.size, 4, none⟩) (by simp)).trans (by simp), ?_⟩
  have := hb.size; simp at this; omega

/-- The parser's block. -/
def ParAt (w : World) (P : Nat) (s : ByteArray) (av tv iv ov : Value) : Prop := w.heap[P]? = some (.cells #[.string s, av, tv, iv, ov] 57 (0, 0))
theorem ParAt.below {w w' : World} {P : Nat} {s : ByteArray} {av tv iv ov : Value} (h : ParAt w P s av tv iv ov) (hb : Below w.heap.size w w') : ParAt w' P s av tv iv ov := (hb.block P (Array.getElem?_eq_some_iff.1 h).1).trans h
theorem ParAt.cells {w : World} {P : Nat} {s : ByteArray} {av tv iv ov : Value} (h : ParAt w P s av tv iv ov) : w.cell? ⟨P, 0, none⟩ = some (.string s) ∧ w.cell? ⟨P, 1, none⟩ = some av ∧ w.cell? ⟨P, 2, none⟩ = some tv ∧ w.cell? ⟨P, 3, none⟩ = some iv ∧ w.cell? ⟨P, 4, none⟩ = some ov := by
  refine ⟨?_, ?_, ?_, ?_, ?_⟩ <;> (rw [cell_of_row w P _ _ _ _ h]; rfl)
theorem ParAt.frozen {w : World} {P : Nat} {s : ByteArray} {av tv iv ov : Value} (h : ParAt w P s av tv iv ov) (j : Nat) : w.frozen? ⟨P, j, none⟩ = false := frozen_of_row w P j _ _ h


theorem pre_ba (c : UInt8) (s : ByteArray) (X : ByteArray) (b : Bool) (h : preAt c s.data.toList = (X.data.toList, b)) (w : World) :
    Calls Tryz.prog 62 #[.string s, .string ⟨#[c]⟩] w fun e w' => e = .returned (.tuple #[.string X, .bool b]) ∧ w' = w := by
  have := pre_any c s w
  rw [h] at this
  simp only [Lib.mk_data] at this
  exact this

def anchorBa : ByteArray := ⟨#[97, 98, 99, 100, 101, 102, 103, 104, 105, 106, 107, 108, 109, 110, 111, 112, 113, 114, 115, 116, 117, 118, 119, 120, 121, 122, 48, 49, 50, 51, 52, 53, 54, 55, 56, 57, 45]⟩
set_option maxHeartbeats 4000000 in
theorem asked_any (P : Nat) (s : ByteArray) (av tv iv ov : Value) (t : Option (List DefL)) (x : ByteArray) (w : World) (hE : Env w) (hP : ParAt w P s av tv iv ov) (hT : TabAt w tv t) (hl : ∀ ds, t = some ds → ds.length ≤ 1000000000) (hs : x.size ≤ 1000000000) :
    Calls Tryz.prog 56 #[.pointer (some ⟨P, 0, none⟩), .string x] w fun e w' => e = .returned (.tuple #[(askedL t x.data.toList).1.val, .bool (askedL t x.data.toList).2]) ∧ Below w.heap.size w w' := by
  have HE := Lib.hid hE
  have hb1 : Below w.heap.size w (w.alloc (.cells #[.int .i64 0, .int .i64 0, .string ⟨#[]⟩, .string ⟨#[]⟩, .string ⟨#[]⟩] 28)) := (Below.refl _ w).alloc (Nat.le_refl _) _
  obtain ⟨r, hr⟩ : ∃ r, askedL t x.data.toList = r := ⟨_, rfl⟩
  rw [hr]
  unfold askedL at hr
  obtain ⟨X, hX, hXz⟩ := ba_at (preAt 94 x.data.toList).1
  have hXl := preAt_len 94 x.data.toList
  rw [← hXz, ← Lib.size_eq] at hXl
  obtain ⟨b, hb⟩ : ∃ b, (preAt 94 x.data.toList).2 = b := ⟨_, rfl⟩
  have hp1 := pre_ba 94 x X b (by rw [hX, ← hb])
  rw [← hX, hb] at hr
  have HP1 := Lib.hid hp1
  have hPP := (hP.below hb1)
  have HPP := Lib.hid hPP
  have HTT := Lib.hid (hT.below hb1)
  have HHL := Lib.hid hl
  clear hp1 hX hXz hb hE hP hT hPP hl
  cases b
  · rw [if_neg (by simp)] at hr
    obtain ⟨Y, hY, hYz⟩ := ba_at (preAt 35 x.data.toList).1
    have hYl := preAt_len 35 x.data.toList
    rw [← hYz, ← Lib.size_eq] at hYl
    obtain ⟨b2, hb2⟩ : ∃ b, (preAt 35 x.data.toList).2 = b := ⟨_, rfl⟩
    have hp2 := pre_ba 35 x Y b2 (by rw [hY, ← hb2])
    rw [← hY, hb2] at hr
    have HP2 := Lib.hid hp2
    clear hp2 hY hYz hb2
    cases b2
    · have HR := Lib.hid (show r = (noInl, false) by rw [← hr, if_pos (Or.inl rfl)])
      clear hr
      have hz0 := zero_inl (n := w.heap.size + 1) (Below.refl _ (w.alloc (.cells #[.int .i64 0, .int .i64 0, .string ⟨#[]⟩, .string ⟨#[]⟩, .string ⟨#[]⟩] 28))) rfl
      have HZ0 := Lib.hid hz0
      clear hz0
      go_enter Tryz.func56, Tryz.ntmps56
      go_wp2_with fail
      refine (HP1.out _).mono ?_
      rintro e w' ⟨rfl, hw'⟩
      obtain rfl := hw'.symm
      go_wp2_with fail
      refine (HP2.out _).mono ?_
      rintro e w' ⟨rfl, hw'⟩
      obtain rfl := hw'.symm
      have hz0 := HZ0.out
      clear HZ0 HPP HTT
      generalize hW : w.alloc (.cells #[.int .i64 0, .int .i64 0, .string ⟨#[]⟩, .string ⟨#[]⟩, .string ⟨#[]⟩] 28) = W at hb1 hz0 ⊢
      obtain ⟨c0, c1, c2, c3, c4, f0, f1, f2, f3, f4, hsz⟩ := hz0
      clear hW
      go_wp2_with fail
      refine bodyPost_ret (v := .tuple #[.agg #[.int .i64 0, .int .i64 0, .string ⟨#[]⟩, .string ⟨#[]⟩, .string ⟨#[]⟩], .bool false]) (by simp [results, Tryz.results56, go_sem, c0, c1, c2, c3, c4, f0, f1, f2, f3, f4]) rfl ⟨?_, below_def hb1⟩
      rw [HR.out]; rfl
    · by_cases hY0 : 0 < Y.size
      · have he := empty_no hY0
        have hYne : Y.data.toList ≠ [] := by intro h; rw [Lib.size_eq, h] at hY0; exact absurd hY0 (by simp)
        have htr := fun W => Any.strings_Trim_laid Tryz.lays160 (by kernel_rfl) Y ⟨#[97, 98, 99, 100, 101, 102, 103, 104, 105, 106, 107, 108, 109, 110, 111, 112, 113, 114, 115, 116, 117, 118, 119, 120, 121, 122, 48, 49, 50, 51, 52, 53, 54, 55, 56, 57, 45]⟩ W (by omega) (by decide) (ascii_of_all (by decide))
        have hta := trim_askd Y.data.toList anchorSet
        rw [show (ByteArray.mk #[97, 98, 99, 100, 101, 102, 103, 104, 105, 106, 107, 108, 109, 110, 111, 112, 113, 114, 115, 116, 117, 118, 119, 120, 121, 122, 48, 49, 50, 51, 52, 53, 54, 55, 56, 57, 45]).data.toList = anchorSet from rfl] at htr
        obtain ⟨Z, hZ⟩ : ∃ Z : ByteArray, Z = ⟨(Lib.trimS Y.data.toList anchorSet).toArray⟩ := ⟨_, rfl⟩
        have hZl : Lib.trimS Y.data.toList anchorSet = Z.data.toList := by rw [hZ]
        rw [← hZ] at htr
        rw [hZl] at hta
        have HTR := Lib.hid htr
        clear htr hZ hZl
        by_cases hZ0 : 0 < Z.size
        · have he2 := empty_no hZ0
          have HR := Lib.hid (show r = (noInl, false) by
            rw [← hr, if_pos]
            refine Or.inr (Or.inr ?_)
            cases h : Y.data.toList.any (fun c => !(anchorSet.contains c)) with
            | true => rfl
            | false => have := hta.2 h; rw [Lib.size_eq, this] at hZ0; exact absurd hZ0 (by simp))
          clear hr hta hYne
          go_enter Tryz.func56, Tryz.ntmps56
          go_wp2_with fail
          refine (HP1.out _).mono ?_
          rintro e w' ⟨rfl, hw'⟩
          obtain rfl := hw'.symm
          go_wp2_with fail
          refine (HP2.out _).mono ?_
          rintro e w' ⟨rfl, hw'⟩
          obtain rfl := hw'.symm
          go_wp2_with fail
          refine (HTR.out _).mono ?_
          rintro e w2 ⟨rfl, b2⟩
          obtain ⟨c0, c1, c2, c3, c4, f0, f1, f2, f3, f4, hsz⟩ := zero_inl b2
          have hB := below_step hb1 b2
          go_wp2_with fail
          refine bodyPost_ret (v := .tuple #[.agg #[.int .i64 0, .int .i64 0, .string ⟨#[]⟩, .string ⟨#[]⟩, .string ⟨#[]⟩], .bool false]) (by simp [results, Tryz.results56, go_sem, c0, c1, c2, c3, c4, f0, f1, f2, f3, f4]) rfl ⟨?_, below_def hB⟩
          rw [HR.out]; rfl
        · have he2 := empty_yes (s := Z) (by omega)
          have HR := Lib.hid (show r = (⟨11, 0, Y.data.toList, [], []⟩, true) by
            rw [← hr, if_neg]
            rintro (h | h | h)
            · cases h
            · exact hYne h
            · have := hta.1 (List.eq_nil_of_length_eq_zero (by rw [← Lib.size_eq]; omega)); rw [this] at h; cases h)
          clear hr hta hYne
          go_enter Tryz.func56, Tryz.ntmps56
          go_wp2_with fail
          refine (HP1.out _).mono ?_
          rintro e w' ⟨rfl, hw'⟩
          obtain rfl := hw'.symm
          go_wp2_with fail
          refine (HP2.out _).mono ?_
          rintro e w' ⟨rfl, hw'⟩
          obtain rfl := hw'.symm
          go_wp2_with fail
          refine (HTR.out _).mono ?_
          rintro e w2 ⟨rfl, b2⟩
          obtain ⟨c0, c1, c2, c3, c4, f0, f1, f2, f3, f4, hsz⟩ := zero_inl b2
          have hB := below_step hb1 b2
          go_wp2_with fail
          refine bodyPost_ret (v := .tuple #[.agg #[.int .i64 11, .int .i64 0, .string Y, .string ⟨#[]⟩, .string ⟨#[]⟩], .bool true]) (by simp [results, Tryz.results56, go_sem, c0, c1, c2, c3, c4, f0, f1, f2, f3, f4]) rfl ⟨?_, below_def hB⟩
          rw [HR.out]; unfold Inl.val; simp only [Lib.mk_data]; rfl
      · have he := empty_yes (s := Y) (by omega)
        have HR := Lib.hid (show r = (noInl, false) by
          rw [← hr, if_pos]
          exact Or.inr (Or.inl (List.eq_nil_of_length_eq_zero (by rw [← Lib.size_eq]; omega))))
        clear hr
        have hz0 := zero_inl (n := w.heap.size + 1) (Below.refl _ (w.alloc (.cells #[.int .i64 0, .int .i64 0, .string ⟨#[]⟩, .string ⟨#[]⟩, .string ⟨#[]⟩] 28))) rfl
        have HZ0 := Lib.hid hz0
        clear hz0
        go_enter Tryz.func56, Tryz.ntmps56
        go_wp2_with fail
        refine (HP1.out _).mono ?_
        rintro e w' ⟨rfl, hw'⟩
        obtain rfl := hw'.symm
        go_wp2_with fail
        refine (HP2.out _).mono ?_
        rintro e w' ⟨rfl, hw'⟩
        obtain rfl := hw'.symm
        have hz0 := HZ0.out
        clear HZ0 HPP HTT
        generalize hW : w.alloc (.cells #[.int .i64 0, .int .i64 0, .string ⟨#[]⟩, .string ⟨#[]⟩, .string ⟨#[]⟩] 28) = W at hb1 hz0 ⊢
        obtain ⟨c0, c1, c2, c3, c4, f0, f1, f2, f3, f4, hsz⟩ := hz0
        clear hW
        go_wp2_with fail
        refine bodyPost_ret (v := .tuple #[.agg #[.int .i64 0, .int .i64 0, .string ⟨#[]⟩, .string ⟨#[]⟩, .string ⟨#[]⟩], .bool false]) (by simp [results, Tryz.results56, go_sem, c0, c1, c2, c3, c4, f0, f1, f2, f3, f4]) rfl ⟨?_, below_def hb1⟩
        rw [HR.out]; rfl
  · rw [if_pos rfl] at hr
    have hf := find_any tv t X true _ (HE.out.below hb1) HTT.out HHL.out (by omega)
    obtain ⟨d, is, hd⟩ : ∃ d is, findL t X.data.toList true = (d, is) := ⟨_, _, rfl⟩
    rw [hd] at hf hr
    simp only [DefL.val, defV] at hf hr
    have HF := Lib.hid hf
    have HR := Lib.hid hr
    obtain ⟨p0, p1, p2, p3, p4⟩ := ParAt.cells HPP.out
    clear hf hr hd p0 p1 p3 p4
    go_enter Tryz.func56, Tryz.ntmps56
    go_wp2_with fail
    refine (HP1.out _).mono ?_
    rintro e w' ⟨rfl, hw'⟩
    obtain rfl := hw'.symm
    go_wp2_with fail
    refine HF.out.mono ?_
    rintro e w2 ⟨rfl, b2⟩
    obtain ⟨c0, c1, c2, c3, c4, f0, f1, f2, f3, f4, hsz⟩ := zero_inl b2
    have hB := below_step hb1 b2
    go_wp2_with fail
    refine bodyPost_ret (v := .tuple #[.agg #[.int .i64 10, .int .i64 0, .string ⟨d.name.toArray⟩, .string ⟨#[]⟩, .string ⟨#[]⟩], .bool is]) (by simp [results, Tryz.results56, go_sem, c0, c1, c2, c3, c4, f0, f1, f2, f3, f4, hsz]) rfl ⟨?_, (below_def hB).alloc (below_def hB).size _⟩
    rw [← HR.out]; rfl

end Go.Proofs.YtahljcbmckldhaaGreatDoor

/-
  define.Table.Add: a definition is added, if there is none of its name.
-/
namespace Go.Proofs.YtahljcbmckldhaaGreatDoor
open Go.RowKit
set_option maxRecDepth 100000
set_option linter.unusedVariables false
set_option linter.unusedSimpArgs false

/-- A table of the call's own. -/
def TabOwn (B : Nat) (w : World) (b : Nat) (ds : List DefL) : Prop := B ≤ b ∧ ∃ sv, w.heap[b]? = some (.cells #[sv] 174 (0, 0)) ∧ w.ownsRow B 150 5 sv ds.length (defCells ds)
theorem TabOwn.below {B : Nat} {w w' : World} {b : Nat} {ds : List DefL} (h : TabOwn B w b ds) (hb : Below w.heap.size w w') : TabOwn B w' b ds := by
  obtain ⟨h0, sv, h1, h2⟩ := h
  exact ⟨h0, sv, (hb.block b (Array.getElem?_eq_some_iff.1 h1).1).trans h1, own_below h2 hb⟩
theorem TabOwn.at' {B : Nat} {w : World} {b : Nat} {ds : List DefL} (h : TabOwn B w b ds) : TabAt w (.pointer (some ⟨b, 0, none⟩)) (some ds) := by
  obtain ⟨h0, sv, h1, h2⟩ := h
  exact ⟨b, sv, rfl, h1, own_mono h2 (Nat.zero_le _)⟩
def addL (ds : List DefL) (d : DefL) : List DefL × Bool := if (lookL ds d.name d.note).isSome then (ds, false) else (ds ++ [d], true)

theorem def_oneCell (d : DefL) : ∀ u ∈ [Value.string ⟨d.name.toArray⟩, .string ⟨d.url.toArray⟩, .string ⟨d.title.toArray⟩, .string ⟨d.text.toArray⟩, .bool d.note], u.oneCell' = true := by
  intro u hu; simp at hu; rcases hu with rfl | rfl | rfl | rfl | rfl <;> rfl

/-- A block of another kind is not the row's own. -/
theorem own_other {w : World} {base : Nat} {e T : TypeId} {size n P : Nat} {v : Value} {xs : List Value} {cs : Array Value} (h : w.ownsRow base e size v n xs) (hP : w.heap[P]? = some (.cells cs T (0, 0))) (he : e ≠ T) : some P ≠ v.ownBlock := by
  intro h0
  rcases h.2 with ⟨rfl, _⟩ | ⟨g, cap, cur, rfl, _, hg, _⟩
  · simp [Value.ownBlock] at h0
  · simp [Value.ownBlock] at h0
    subst h0
    rw [hg] at hP
    simp at hP
    exact he hP.2
theorem heap_cell {w w' : World} {k j : Nat} {u : Value} (h : w.cell? ⟨k, j, none⟩ = some u) (hk : w'.heap[k]? = w.heap[k]?) : w'.cell? ⟨k, j, none⟩ = some u := by
  rw [← h]; unfold World.cell?; rw [hk]
end Go.Proofs.YtahljcbmckldhaaGreatDoor

/-
  string([]byte{c}): a byte as a text.
-/
namespace Go.Proofs.YtahljcbmckldhaaGreatDoor
open Go.RowKit

theorem one_byte (W : World) (c : UInt8) (g : Nat) (hg : g = W.heap.size) :
    (convert 37 9 (.slice (some ⟨g, 0, none⟩) 1 1)).run Tryz.prog (W.alloc (.cells #[.int .u8 (c.toNat : Int)] 5)) = .ok (.string ⟨#[c]⟩) (W.alloc (.cells #[.int .u8 (c.toNat : Int)] 5)) := by
  subst hg
  exact run_convert_bytes_back (W.alloc (.cells #[.int .u8 (c.toNat : Int)] 5)) 37 9 5 ⟨W.heap.size, 0, none⟩ 1 [c] Tryz.underlying37 Tryz.underlying5 Tryz.underlying9 (fun j hj => by
    have : j = 0 := by simp at hj; exact hj
    subst this
    simp [Addr.add])

end Go.Proofs.YtahljcbmckldhaaGreatDoor

/-
  emph: nodes of a piece, deeper nodes, the test whether a row is paired, the row ahead that a row closes.
-/
namespace Go.Proofs.YtahljcbmckldhaaGreatDoor
open Go.RowKit
set_option maxRecDepth 100000
set_option linter.unusedVariables false
set_option linter.unusedSimpArgs false

theorem repeatL_one (c : UInt8) : ∀ n : Nat, Lib.repeatL [c] n = List.replicate n c
  | 0 => rfl
  | n + 1 => by
    show [c] ++ Lib.repeatL [c] n = _
    rw [repeatL_one c n, List.replicate_succ]; rfl

theorem nodes_some {p : Piece} (h : p.it.sign ≠ 0) (h1 : 0 < p.left) : p.nodes = [wordsI (List.replicate p.left p.it.sign)] := by unfold Piece.nodes; rw [if_neg h, if_pos h1]
theorem nodes_none {p : Piece} (h : p.it.sign ≠ 0) (h1 : ¬ 0 < p.left) : p.nodes = [] := by unfold Piece.nodes; rw [if_neg h, if_neg h1]
theorem nodes_zero {p : Piece} (h : p.it.sign = 0) : p.nodes = p.it.l := by unfold Piece.nodes; rw [if_pos h]
theorem byte_zero {c : UInt8} (h : c ≠ 0) : ((c.toNat : Int) == 0) = false := by
  have : c.toNat ≠ 0 := fun e => h (byte_eq e)
  simp; omega

set_option maxHeartbeats 2000000 in
theorem nodes_any (x : PieceV) (w : World) (hl : InlsAt w x.2 x.1.it.l) (hb : x.1.left ≤ 100000000000000) :
    Calls Tryz.prog 35 #[pieceVal x] w fun e w' => ∃ v, e = .returned v ∧ InlsAt w' v x.1.nodes ∧ Below w.heap.size w w' := by
  obtain ⟨⟨⟨sign, n, op, cl, l⟩, left, shut⟩, lv⟩ := x
  simp only at hl hb
  show Calls Tryz.prog _ #[.agg #[.int .u8 (sign.toNat : Int), .int .i64 (n : Int), .bool op, .bool cl, lv, .int .i64 (left : Int), .bool shut]] w _
  obtain ⟨ao, c, hlv, _⟩ := own_slice hl
  subst hlv
  have HL := Lib.hid hl
  clear hl
  by_cases hs : sign = 0
  · have hs0 : ((sign.toNat : Int) == 0) = true := by rw [hs]; rfl
    have HN := Lib.hid (nodes_zero (p := ⟨⟨sign, n, op, cl, l⟩, left, shut⟩) hs)
    clear hs
    go_enter Tryz.func35, Tryz.ntmps35
    go_wp2_with fail
    go_ret
    exact ⟨_, rfl, by rw [HN.out]; exact HL.out.alloc _, (Below.refl _ w).alloc (Nat.le_refl _) _⟩
  · have hs0 := byte_zero hs
    by_cases hlp : 0 < left
    · have hl1 : (0 : Int) < (left : Int) := by omega
      have HN := Lib.hid (nodes_some (p := ⟨⟨sign, n, op, cl, l⟩, left, shut⟩) hs hlp)
      have hrep := fun W => Tryz.strings_Repeat ⟨#[sign]⟩ left W (by omega) (by rw [Lib.size_eq]; simp; omega)
      simp only [repeatL_one] at hrep
      have HR := Lib.hid hrep
      have cvq := one_byte
      clear hrep hs
      go_enter Tryz.func35, Tryz.ntmps35
      go_wp2_with fail
      refine (HR.out _).mono ?_
      rintro e w2 ⟨rfl, b2⟩
      have hB2 := (((Below.refl w.heap.size w).alloc (Nat.le_refl _) (.cells #[.int .u8 (sign.toNat : Int), .int .i64 (n : Int), .bool op, .bool cl, .slice ao l.length c, .int .i64 (left : Int), .bool shut] 104)).alloc (by simp) (.cells #[.int .u8 (sign.toNat : Int)] 5))
      have hB3 := hB2.trans (b2.mono hB2.size)
      go_wp2_with fail
      go_ret
      refine ⟨_, rfl, ?_, hB3.alloc hB3.size _⟩
      rw [HN.out]
      exact InlsAt.one w2 (wordsI (List.replicate left sign)) _ rfl
    · have hl1 : ¬ (0 : Int) < (left : Int) := by omega
      have HN := Lib.hid (nodes_none (p := ⟨⟨sign, n, op, cl, l⟩, left, shut⟩) hs hlp)
      clear hs
      go_enter Tryz.func35, Tryz.ntmps35
      go_wp2_with fail
      go_ret
      exact ⟨_, rfl, by rw [HN.out]; exact InlsAt.nil _, (Below.refl _ w).alloc (Nat.le_refl _) _⟩

theorem deeperL_snoc (l : List Inl) (x : Inl) : deeperL (l ++ [x]) = deeperL l ++ [deep1 x] := by unfold deeperL; simp
theorem take_snoc {α : Type} (l : List α) (k : Nat) (x : α) (h : l[k]? = some x) : l.take (k + 1) = l.take k ++ [x] := by
  obtain ⟨hk, hx⟩ := List.getElem?_eq_some_iff.1 h
  rw [List.take_succ_eq_append_getElem hk, hx]

set_option maxHeartbeats 2000000 in
/-- Nodes, deeper by one. -/
theorem deeper_any (v : Value) (l : List Inl) (w : World) (hl : InlsAt w v l) (hn : l.length ≤ 1000000000000) (hd : ∀ x ∈ l, x.depth ≤ 1000000000000) :
    Calls Tryz.prog 34 #[v] w fun e w' => ∃ v', e = .returned v' ∧ w'.ownsRow w.heap.size 28 5 v' (deeperL l).length (inlCells (deeperL l)) ∧ Below w.heap.size w w' := by
  obtain ⟨i0, hi, hz0, hz1, hz2⟩ := info_parts infoInl
  obtain ⟨ao, c, hlv, hR, _⟩ := own_slice hl
  subst hlv
  have HR := Lib.hid hR
  have HD := Lib.hid hd
  clear hl hR hd
  go_enter Tryz.func34, Tryz.ntmps34
  go_wp2_with fail
  go_loopw [3, 8] (fun u3 u8 wr => ∃ k : Nat, k ≤ l.length ∧ u8 = .int .i64 k ∧ wr.ownsRow w.heap.size 28 5 u3 k (inlCells (deeperL (l.take k))) ∧ Below w.heap.size w wr) (fun _ u8 _ => l.length - (intOf u8).toNat)
  case atStart => exact ⟨0, Nat.zero_le _, rfl, World.ownsRow_nil _ _ _ _, Below.refl _ _⟩
  case round =>
    obtain ⟨k, hk, rfl, hown, hB⟩ := hrel
    by_cases hlt : k < l.length
    · obtain ⟨x, hx⟩ : ∃ x, l[k]? = some x := ⟨l[k], by simp [hlt]⟩
      obtain ⟨g, o, rfl⟩ := HR.out.addr (by omega)
      obtain ⟨c0, c1, c2, c3, c4⟩ := (HR.out.below hB).inl k x hx
      have hdx := HD.out x (List.mem_of_getElem? hx)
      have HTK := Lib.hid (take_snoc l k x hx)
      clear hx
      go_wp2_with (first
        | (at_builtin; refine wpList_append_own _ rfl _ _ 25 rfl w.heap.size 28 i0 (.agg #[.int .i64 0, .int .i64 0, .string ⟨#[]⟩, .string ⟨#[]⟩, .string ⟨#[]⟩]) 5 64 Tryz.underlying25 hi hz0 hz1 hz2 rfl (by decide) _ _ _ rfl ((hown.alloc _).alloc _) ⟨wr.heap.size + 1, 0, none⟩ 1 1 [.int .i64 (x.kind : Int), .int .i64 ((x.depth : Int) + 1), .string ⟨x.text.toArray⟩, .string ⟨x.url.toArray⟩, .string ⟨x.title.toArray⟩] rfl rfl ?c1 ?c2 ?c3 ?c4 ?c5 ?_))
      case c1 => exact cells_new _ _ _ _ (by simp)
      case c2 => intro u hu; simp at hu; rcases hu with rfl | rfl | rfl | rfl | rfl <;> rfl
      case c3 => unfold maxLen; omega
      case c4 => omega
      case c5 => have := hB.size; simp; omega
      intro v' w4 hown4 hgrow _
      have hB4 := ((hB.alloc hB.size (.cells #[.int .i64 (x.kind : Int), .int .i64 ((x.depth : Int) + 1), .string ⟨x.text.toArray⟩, .string ⟨x.url.toArray⟩, .string ⟨x.title.toArray⟩] 28)).alloc (by have := hB.size; simp; omega) (.cells #[.int .i64 (x.kind : Int), .int .i64 ((x.depth : Int) + 1), .string ⟨x.text.toArray⟩, .string ⟨x.url.toArray⟩, .string ⟨x.title.toArray⟩] 28)).grown hgrow (by have := hB.size; simp; omega) (fun j hj => (hown.lt j hj).1)
      have HO := Lib.hid (show w4.ownsRow w.heap.size 28 5 v' (k + 1) (inlCells (deeperL (l.take (k + 1)))) by
        rw [HTK.out, deeperL_snoc, inlCells_append, inlCells_one]; exact hown4)
      clear hgrow hown hB hown4
      go_wp2_with fail
      go_roundw
      case rel => exact ⟨k + 1, by omega, by go_num, HO.out, hB4⟩
      case measure => simp [intOf]; omega
    · obtain rfl : k = l.length := by omega
      go_wp2_with fail
      go_ret
      refine ⟨u3, rfl, ?_, hB⟩
      rw [List.take_length] at hown
      rw [show (deeperL l).length = l.length by unfold deeperL; simp]
      exact hown

end Go.Proofs.YtahljcbmckldhaaGreatDoor

/-
  emph: whether a row is paired; the row ahead that a row closes. inline.within.
-/
namespace Go.Proofs.YtahljcbmckldhaaGreatDoor
open Go.RowKit
set_option maxRecDepth 100000
set_option linter.unusedVariables false
set_option linter.unusedSimpArgs false

/-- The cells of a piece in a row that is read from anywhere. -/
theorem RowR.piece {w : World} {g o n : Nat} {l : List PieceV} (h : RowR w 7 (some ⟨g, o, none⟩) n (l.flatMap pieceCells)) (k : Nat) (x : PieceV) (hk : l[k]? = some x) :
    w.cell? ⟨g, o + k * 7, none⟩ = some (.int .u8 (x.1.it.sign.toNat : Int)) ∧ w.cell? ⟨g, o + k * 7 + 1, none⟩ = some (.int .i64 (x.1.it.n : Int)) ∧ w.cell? ⟨g, o + k * 7 + 2, none⟩ = some (.bool x.1.it.op) ∧ w.cell? ⟨g, o + k * 7 + 3, none⟩ = some (.bool x.1.it.cl) ∧ w.cell? ⟨g, o + k * 7 + 4, none⟩ = some x.2 ∧ w.cell? ⟨g, o + k * 7 + 5, none⟩ = some (.int .i64 (x.1.left : Int)) ∧ w.cell? ⟨g, o + k * 7 + 6, none⟩ = some (.bool x.1.shut) :=
  ⟨h.cell piece_len k 0 x _ hk (by omega) rfl, h.cell piece_len k 1 x _ hk (by omega) rfl, h.cell piece_len k 2 x _ hk (by omega) rfl, h.cell piece_len k 3 x _ hk (by omega) rfl, h.cell piece_len k 4 x _ hk (by omega) rfl, h.cell piece_len k 5 x _ hk (by omega) rfl, h.cell piece_len k 6 x _ hk (by omega) rfl⟩

theorem three_any (n : Int) (w : World) : Calls Tryz.prog 85 #[.int .i64 n] w fun e w' => e = .returned (.bool (n.tmod 3 == 0)) ∧ w' = w := by
  go_enter Tryz.func85, Tryz.ntmps85
  go_wp2_with fail
  go_ret
  exact ⟨rfl, rfl⟩
theorem tmod_nat (n : Nat) : (((n : Int).tmod 3) == 0) = (n % 3 == 0) := by
  rw [Int.tmod_eq_emod_of_nonneg (by omega), Bool.eq_iff_iff]
  simp; omega
theorem three_nat (n : Nat) (w : World) : Calls Tryz.prog 85 #[.int .i64 (n : Int)] w fun e w' => e = .returned (.bool (n % 3 == 0)) ∧ w' = w := by
  refine (three_any n w).mono ?_
  rintro e w' ⟨rfl, rfl⟩
  exact ⟨by rw [tmod_nat], rfl⟩

set_option maxHeartbeats 4000000 in
/-- Whether a row is paired with the one that closes it. -/
theorem pair_any (a b : PieceV) (w : World) (ha : a.1.it.n ≤ 1000000000000) (hb : b.1.it.n ≤ 1000000000000) :
    Calls Tryz.prog 58 #[pieceVal a, pieceVal b] w fun e w' => e = .returned (.bool (pairs a.1 b.1)) ∧ Below w.heap.size w w' := by
  obtain ⟨⟨⟨s1, n1, o1, c1, l1⟩, f1, h1⟩, v1⟩ := a
  obtain ⟨⟨⟨s2, n2, o2, c2, l2⟩, f2, h2⟩, v2⟩ := b
  simp only at ha hb
  show Calls Tryz.prog _ #[.agg #[.int .u8 (s1.toNat : Int), .int .i64 (n1 : Int), .bool o1, .bool c1, v1, .int .i64 (f1 : Int), .bool h1], .agg #[.int .u8 (s2.toNat : Int), .int .i64 (n2 : Int), .bool o2, .bool c2, v2, .int .i64 (f2 : Int), .bool h2]] w _
  have hP : pairs ⟨⟨s1, n1, o1, c1, l1⟩, f1, h1⟩ ⟨⟨s2, n2, o2, c2, l2⟩, f2, h2⟩ = (if s1 ≠ s2 ∨ o1 = false ∨ f1 < 1 then false else !((o1 && c1) || (o2 && c2)) || !((n1 + n2) % 3 == 0) || (n1 % 3 == 0 && n2 % 3 == 0)) := rfl
  have hbel : Below w.heap.size w ((w.alloc (.cells #[.int .u8 (s1.toNat : Int), .int .i64 (n1 : Int), .bool o1, .bool c1, v1, .int .i64 (f1 : Int), .bool h1] 104)).alloc (.cells #[.int .u8 (s2.toNat : Int), .int .i64 (n2 : Int), .bool o2, .bool c2, v2, .int .i64 (f2 : Int), .bool h2] 104)) :=
    ((Below.refl _ w).alloc (Nat.le_refl _) _).alloc (by simp) _
  have t1 := fun W => three_nat (n1 + n2) W
  have t2 := fun W => three_nat n1 W
  have t3 := fun W => three_nat n2 W
  rw [Int.natCast_add] at t1
  obtain ⟨r1, hr1⟩ : ∃ r, ((n1 + n2) % 3 == 0) = r := ⟨_, rfl⟩
  obtain ⟨r2, hr2⟩ : ∃ r, (n1 % 3 == 0) = r := ⟨_, rfl⟩
  obtain ⟨r3, hr3⟩ : ∃ r, (n2 % 3 == 0) = r := ⟨_, rfl⟩
  rw [hr1] at t1 hP
  rw [hr2] at t2 hP
  rw [hr3] at t3 hP
  obtain ⟨R, hR⟩ : ∃ R, pairs ⟨⟨s1, n1, o1, c1, l1⟩, f1, h1⟩ ⟨⟨s2, n2, o2, c2, l2⟩, f2, h2⟩ = R := ⟨_, rfl⟩
  rw [hR] at hP ⊢
  have HP := Lib.hid hP
  clear hP hr1 hr2 hr3 hR
  have T1 := Lib.hid t1
  have T2 := Lib.hid t2
  have T3 := Lib.hid t3
  have HB := Lib.hid hbel
  clear t1 t2 t3 hbel
  by_cases hs : s1 = s2
  · have hs' : ((s1.toNat : Int) != (s2.toNat : Int)) = false := by rw [hs]; simp
    cases o1
    · have HR := Lib.hid (show R = false by rw [HP.out]; simp)
      clear HP hs
      go_enter Tryz.func58, Tryz.ntmps58
      go_wp2_with fail
      go_ret
      exact ⟨by rw [HR.out]; rfl, HB.out⟩
    · by_cases hf : f1 < 1
      · have hf' : (f1 : Int) < 1 := by omega
        have HR := Lib.hid (show R = false by rw [HP.out]; simp [hf])
        clear HP hs hf
        go_enter Tryz.func58, Tryz.ntmps58
        go_wp2_with fail
        go_ret
        exact ⟨by rw [HR.out]; rfl, HB.out⟩
      · have hf' : ¬ (f1 : Int) < 1 := by omega
        have HQ := Lib.hid (show R = (!(c1 || (o2 && c2)) || !r1 || (r2 && r3)) by rw [HP.out, if_neg (by simp [hs, hf])]; simp)
        clear HP hs hf
        cases c1
        · cases o2
          · go_enter Tryz.func58, Tryz.ntmps58
            go_wp2_with fail
            go_ret
            exact ⟨by rw [HQ.out]; rfl, HB.out⟩
          · cases c2
            · go_enter Tryz.func58, Tryz.ntmps58
              go_wp2_with fail
              go_ret
              exact ⟨by rw [HQ.out]; rfl, HB.out⟩
            · cases r1
              · go_enter Tryz.func58, Tryz.ntmps58
                go_wp2_with fail
                refine (T1.out _).mono ?_
                rintro e w' ⟨rfl, hw'⟩
                obtain rfl := hw'.symm
                go_wp2_with fail
                go_ret
                exact ⟨by rw [HQ.out]; rfl, HB.out⟩
              · cases r2
                · go_enter Tryz.func58, Tryz.ntmps58
                  go_wp2_with fail
                  refine (T1.out _).mono ?_
                  rintro e w' ⟨rfl, hw'⟩
                  obtain rfl := hw'.symm
                  go_wp2_with fail
                  refine (T2.out _).mono ?_
                  rintro e w' ⟨rfl, hw'⟩
                  obtain rfl := hw'.symm
                  go_wp2_with fail
                  go_ret
                  exact ⟨by rw [HQ.out]; rfl, HB.out⟩
                · go_enter Tryz.func58, Tryz.ntmps58
                  go_wp2_with fail
                  refine (T1.out _).mono ?_
                  rintro e w' ⟨rfl, hw'⟩
                  obtain rfl := hw'.symm
                  go_wp2_with fail
                  refine (T2.out _).mono ?_
                  rintro e w' ⟨rfl, hw'⟩
                  obtain rfl := hw'.symm
                  go_wp2_with fail
                  refine (T3.out _).mono ?_
                  rintro e w' ⟨rfl, hw'⟩
                  obtain rfl := hw'.symm
                  go_wp2_with fail
                  go_ret
                  exact ⟨by rw [HQ.out]; rfl, HB.out⟩
        · cases r1
          · go_enter Tryz.func58, Tryz.ntmps58
            go_wp2_with fail
            refine (T1.out _).mono ?_
            rintro e w' ⟨rfl, hw'⟩
            obtain rfl := hw'.symm
            go_wp2_with fail
            go_ret
            exact ⟨by rw [HQ.out]; rfl, HB.out⟩
          · cases r2
            · go_enter Tryz.func58, Tryz.ntmps58
              go_wp2_with fail
              refine (T1.out _).mono ?_
              rintro e w' ⟨rfl, hw'⟩
              obtain rfl := hw'.symm
              go_wp2_with fail
              refine (T2.out _).mono ?_
              rintro e w' ⟨rfl, hw'⟩
              obtain rfl := hw'.symm
              go_wp2_with fail
              go_ret
              exact ⟨by rw [HQ.out]; rfl, HB.out⟩
            · go_enter Tryz.func58, Tryz.ntmps58
              go_wp2_with fail
              refine (T1.out _).mono ?_
              rintro e w' ⟨rfl, hw'⟩
              obtain rfl := hw'.symm
              go_wp2_with fail
              refine (T2.out _).mono ?_
              rintro e w' ⟨rfl, hw'⟩
              obtain rfl := hw'.symm
              go_wp2_with fail
              refine (T3.out _).mono ?_
              rintro e w' ⟨rfl, hw'⟩
              obtain rfl := hw'.symm
              go_wp2_with fail
              go_ret
              exact ⟨by rw [HQ.out]; rfl, HB.out⟩
  · have hs' : ((s1.toNat : Int) != (s2.toNat : Int)) = true := by
      have : s1.toNat ≠ s2.toNat := fun e => hs (UInt8.toNat_inj.1 e)
      simp; omega
    have HR := Lib.hid (show R = false by rw [HP.out]; simp [hs])
    clear hs HP
    go_enter Tryz.func58, Tryz.ntmps58
    go_wp2_with fail
    go_ret
    exact ⟨by rw [HR.out]; rfl, HB.out⟩

end Go.Proofs.YtahljcbmckldhaaGreatDoor

/-
  emph.opener: the row ahead that a row closes. inline.within: a node, and what lies in it.
-/
namespace Go.Proofs.YtahljcbmckldhaaGreatDoor
open Go.RowKit
set_option maxRecDepth 100000
set_option linter.unusedVariables false
set_option linter.unusedSimpArgs false

def piecesV (l : List PieceV) : List Piece := l.map Prod.fst
theorem piecesV_at {l : List PieceV} {k : Nat} {x : PieceV} (h : l[k]? = some x) : (piecesV l).getD k noPiece = x.1 := by
  unfold piecesV
  simp [List.getD, h]
theorem getElem?_ex {α : Type} (l : List α) (k : Nat) (h : k < l.length) : ∃ x, l[k]? = some x := ⟨l[k], by simp [h]⟩
/-- Where the search goes on from. -/
def openInt (o : Option Nat) : Int := match o with | some k => (k : Int) | none => -1
theorem openerL_lt (l : List Piece) (c : Piece) : ∀ (i k : Nat), openerL l c i = some k → k < i
  | 0, k, h => by simp [openerL] at h
  | i + 1, k, h => by
    unfold openerL at h
    split at h
    · simp at h; omega
    · have := openerL_lt l c i k h; omega

set_option maxHeartbeats 4000000 in
/-- The nearest row ahead that is paired with the one at a place; below 0: there is none. -/
theorem opener_any (g o cap : Nat) (l : List PieceV) (i : Nat) (y : PieceV) (w : World) (hR : RowR w 7 (some ⟨g, o, none⟩) l.length (l.flatMap pieceCells)) (hn : ∀ x ∈ l, x.1.it.n ≤ 1000000000000) (hlen : l.length ≤ 1000000000000) (hy : l[i]? = some y) :
    Calls Tryz.prog 33 #[.slice (some ⟨g, o, none⟩) l.length cap, .int .i64 i] w fun e w' => e = .returned (.int .i64 (openInt (openerL (piecesV l) y.1 i))) ∧ Below w.heap.size w w' := by
  have hi : i < l.length := (List.getElem?_eq_some_iff.1 hy).1
  have HR := Lib.hid hR
  have HN := Lib.hid hn
  have HY := Lib.hid hy
  have hyn := hn y (List.mem_of_getElem? hy)
  have hO : ∃ r, openerL (piecesV l) y.1 i = r := ⟨_, rfl⟩
  obtain ⟨r, hO⟩ := hO
  rw [hO]
  have HO := Lib.hid hO
  clear hR hn hO hy
  go_enter Tryz.func33, Tryz.ntmps33
  go_wp2_with fail
  go_loopw [5] (fun u5 wr => ∃ k : Nat, k ≤ i ∧ u5 = .int .i64 ((k : Int) - 1) ∧ Below w.heap.size w wr ∧ openerL (piecesV l) y.1 k = r) (fun u5 _ => ((intOf u5) + 1).toNat)
  case atStart => exact ⟨i, Nat.le_refl _, rfl, Below.refl _ _, HO.out⟩
  case round =>
    obtain ⟨k, hk, rfl, hB, hop⟩ := hrel
    by_cases hk0 : k = 0
    · subst hk0
      have HQ := Lib.hid (show r = none by rw [← hop]; rfl)
      clear hop
      rw [show (((0 : Nat) : Int) - 1) = -1 from rfl]
      go_wp2_with fail
      go_quiet (fail)
      go_wp2_with fail
      go_ret
      exact ⟨by rw [HQ.out]; rfl, ⟨hB.os, hB.tape, hB.output, hB.size, hB.block⟩⟩
    · obtain ⟨j, rfl⟩ : ∃ j, k = j + 1 := ⟨k - 1, by omega⟩
      obtain ⟨x, hx⟩ := getElem?_ex l j (by omega)
      obtain ⟨a0, a1, a2, a3, a4, a5, a6⟩ := (HR.out.below hB).piece j x hx
      obtain ⟨b0, b1, b2, b3, b4, b5, b6⟩ := (HR.out.below hB).piece i y HY.out
      have hp := fun W => pair_any x y W (HN.out x (List.mem_of_getElem? hx)) hyn
      have hj : (((j + 1 : Nat) : Int) - 1) = (j : Int) := by omega
      rw [hj]
      have hge : (0 : Int) ≤ (j : Int) := by omega
      have hjl : (j : Int) < (l.length : Int) := by omega
      have hil : (i : Int) < (l.length : Int) := by omega
      unfold openerL at hop
      rw [piecesV_at hx] at hop
      obtain ⟨q, hq⟩ : ∃ q, pairs x.1 y.1 = q := ⟨_, rfl⟩
      rw [hq] at hp hop
      have HP := Lib.hid hp
      have HOP := Lib.hid hop
      clear hp hop hq hx
      go_wp2_with fail
      go_still_tail 11, (by kernel_rfl)
      have hBd := hB.drew
      change wpList _ _ _ _ _ wr.drew
      obtain ⟨W, hW⟩ : ∃ W, wr.drew = W := ⟨_, rfl⟩
      rw [hW] at hBd ⊢
      clear hW
      go_wp2_with fail
      refine (HP.out _).mono ?_
      rintro e w2 ⟨rfl, b2⟩
      have hB2 := below_step hBd b2
      cases q
      · have HQ := Lib.hid (show openerL (piecesV l) y.1 j = r by have := HOP.out; rwa [if_neg (by simp)] at this)
        clear HOP
        go_wp2_with fail
        go_roundw
        case rel => exact ⟨j, by omega, by go_num, hB2, HQ.out⟩
        case measure => simp [intOf]
      · have HQ := Lib.hid (show r = some j by have := HOP.out; rw [if_pos rfl] at this; exact this.symm)
        clear HOP
        go_wp2_with fail
        go_ret
        exact ⟨by rw [HQ.out]; rfl, hB2⟩

set_option maxHeartbeats 2000000 in
/-- A node, and what lies in it. -/
theorem within_any (y : Inl) (v : Value) (l : List Inl) (w : World) (hl : InlsAt w v l) (hn : l.length ≤ 1000000000000) (hd : ∀ x ∈ l, x.depth ≤ 1000000000000) :
    Calls Tryz.prog 28 #[y.val, v] w fun e w' => ∃ v', e = .returned v' ∧ InlsAt w' v' (withinL y l) ∧ Below w.heap.size w w' := by
  obtain ⟨i0, hi, hz0, hz1, hz2⟩ := info_parts infoInl
  obtain ⟨ao, c, hlv, hR, _⟩ := own_slice hl
  subst hlv
  have HR := Lib.hid hR
  have HD := Lib.hid hd
  clear hl hR hd
  show Calls Tryz.prog _ #[.agg #[.int .i64 (y.kind : Int), .int .i64 (y.depth : Int), .string ⟨y.text.toArray⟩, .string ⟨y.url.toArray⟩, .string ⟨y.title.toArray⟩], .slice ao l.length c] w _
  have hB1 : Below w.heap.size w (w.alloc (.cells #[.int .i64 (y.kind : Int), .int .i64 (y.depth : Int), .string ⟨y.text.toArray⟩, .string ⟨y.url.toArray⟩, .string ⟨y.title.toArray⟩] 28)) := (Below.refl _ w).alloc (Nat.le_refl _) _
  have hB2 := hB1.alloc hB1.size (.cells #[.int .i64 (y.kind : Int), .int .i64 (y.depth : Int), .string ⟨y.text.toArray⟩, .string ⟨y.url.toArray⟩, .string ⟨y.title.toArray⟩] 28)
  have hO1 := World.ownsRow_lit (base := w.heap.size) (e := 28) (size := 5) (w.alloc (.cells #[.int .i64 (y.kind : Int), .int .i64 (y.depth : Int), .string ⟨y.text.toArray⟩, .string ⟨y.url.toArray⟩, .string ⟨y.title.toArray⟩] 28)) #[.int .i64 (y.kind : Int), .int .i64 (y.depth : Int), .string ⟨y.text.toArray⟩, .string ⟨y.url.toArray⟩, .string ⟨y.title.toArray⟩] 1 hB1.size (by unfold maxLen; omega) rfl
  rw [World.size_alloc] at hO1
  have HB2 := Lib.hid hB2
  have HO1 := Lib.hid hO1
  clear hB1 hB2 hO1
  go_enter Tryz.func28, Tryz.ntmps28
  go_wp2_with fail
  go_loopw [5, 12] (fun u3 u8 wr => ∃ k : Nat, k ≤ l.length ∧ u8 = .int .i64 k ∧ wr.ownsRow w.heap.size 28 5 u3 (k + 1) (inlCells (withinL y (l.take k))) ∧ Below w.heap.size w wr) (fun _ u8 _ => l.length - (intOf u8).toNat)
  case atStart => exact ⟨0, Nat.zero_le _, rfl, HO1.out, HB2.out⟩
  case round =>
    obtain ⟨k, hk, rfl, hown, hB⟩ := hrel
    by_cases hlt : k < l.length
    · obtain ⟨x, hx⟩ : ∃ x, l[k]? = some x := ⟨l[k], by simp [hlt]⟩
      obtain ⟨g, o, rfl⟩ := HR.out.addr (by omega)
      obtain ⟨c0, c1, c2, c3, c4⟩ := (HR.out.below hB).inl k x hx
      have hdx := HD.out x (List.mem_of_getElem? hx)
      have HTK := Lib.hid (take_snoc l k x hx)
      clear hx
      go_wp2_with (first
        | (at_builtin; refine wpList_append_own _ rfl _ _ 25 rfl w.heap.size 28 i0 (.agg #[.int .i64 0, .int .i64 0, .string ⟨#[]⟩, .string ⟨#[]⟩, .string ⟨#[]⟩]) 5 64 Tryz.underlying25 hi hz0 hz1 hz2 rfl (by decide) _ _ _ rfl ((hown.alloc _).alloc _) ⟨wr.heap.size + 1, 0, none⟩ 1 1 [.int .i64 (x.kind : Int), .int .i64 ((x.depth : Int) + 1), .string ⟨x.text.toArray⟩, .string ⟨x.url.toArray⟩, .string ⟨x.title.toArray⟩] rfl rfl ?c1 ?c2 ?c3 ?c4 ?c5 ?_))
      case c1 => exact cells_new _ _ _ _ (by simp)
      case c2 => intro u hu; simp at hu; rcases hu with rfl | rfl | rfl | rfl | rfl <;> rfl
      case c3 => unfold maxLen; omega
      case c4 => omega
      case c5 => have := hB.size; simp; omega
      intro v' w4 hown4 hgrow _
      have hB4 := ((hB.alloc hB.size (.cells #[.int .i64 (x.kind : Int), .int .i64 ((x.depth : Int) + 1), .string ⟨x.text.toArray⟩, .string ⟨x.url.toArray⟩, .string ⟨x.title.toArray⟩] 28)).alloc (by have := hB.size; simp; omega) (.cells #[.int .i64 (x.kind : Int), .int .i64 ((x.depth : Int) + 1), .string ⟨x.text.toArray⟩, .string ⟨x.url.toArray⟩, .string ⟨x.title.toArray⟩] 28)).grown hgrow (by have := hB.size; simp; omega) (fun j hj => (hown.lt j hj).1)
      have HO := Lib.hid (show w4.ownsRow w.heap.size 28 5 v' (k + 1 + 1) (inlCells (withinL y (l.take (k + 1)))) by
        rw [HTK.out]
        unfold withinL at hown4 ⊢
        rw [deeperL_snoc, ← List.cons_append, inlCells_append, inlCells_one]; exact hown4)
      clear hgrow hown hB hown4
      go_wp2_with fail
      go_roundw
      case rel => exact ⟨k + 1, by omega, by go_num, HO.out, hB4⟩
      case measure => simp [intOf]; omega
    · obtain rfl : k = l.length := by omega
      go_wp2_with fail
      go_ret
      refine ⟨u5, rfl, ?_, hB⟩
      rw [List.take_length] at hown
      unfold InlsAt
      rw [show (withinL y l).length = l.length + 1 by unfold withinL deeperL; simp]
      exact own_mono hown (Nat.zero_le _)

end Go.Proofs.YtahljcbmckldhaaGreatDoor

/-
  How nodes lie in one another: what Group and Parse make lies only in Emph, Strong, Link, Span; no words are empty, none stand side by side. Plain facts.
-/
namespace Go.Proofs.YtahljcbmckldhaaGreatDoor
open Go.RowKit
set_option linter.unusedVariables false
set_option linter.unusedSimpArgs false

def cont (k : Nat) : Bool := k == 3 || k == 4 || k == 5 || k == 12
/-- x may stand behind w. -/
def okAfter (w x : Inl) : Prop := x.depth ≤ w.depth + 1 ∧ (w.depth < x.depth → cont w.kind = true)
def Chained : List Inl → Prop
  | [] => True
  | [_] => True
  | w :: x :: l => okAfter w x ∧ Chained (x :: l)
def kindOk (x : Inl) : Prop := 1 ≤ x.kind ∧ x.kind ≤ 12

theorem kOk {x : Inl} (k : Nat) (h : x.kind = k) (hk : (decide (1 ≤ k) && decide (k ≤ 12)) = true) : kindOk x := by
  simp at hk; unfold kindOk; rw [h]; exact hk
theorem getD_in {α : Type} (l : List α) (d : α) (i : Nat) (h : i < l.length) : l.getD i d = l[i] := by simp [List.getD, h]
theorem getD_out {α : Type} (l : List α) (d : α) (i : Nat) (h : l.length ≤ i) : l.getD i d = d := by simp [List.getD, h]

theorem chained_cons (w : Inl) (l : List Inl) : Chained (w :: l) ↔ (∀ x, l.head? = some x → okAfter w x) ∧ Chained l := by
  cases l with
  | nil => simp [Chained]
  | cons x l => simp [Chained]
theorem chained_append : ∀ (a b : List Inl), Chained (a ++ b) ↔ Chained a ∧ Chained b ∧ ∀ w x, a.getLast? = some w → b.head? = some x → okAfter w x
  | [], b => by simp [Chained]
  | w :: a, b => by
    rw [List.cons_append, chained_cons, chained_cons, chained_append a b]
    cases a with
    | nil =>
      simp only [List.nil_append, List.head?_nil, List.getLast?_nil, List.getLast?_singleton, Option.some.injEq]
      constructor
      · rintro ⟨h1, h2, h3, h4⟩
        exact ⟨⟨fun x h => by simp at h, h2⟩, h3, fun w' x hw hx => by subst hw; exact h1 x hx⟩
      · rintro ⟨⟨h1, h2⟩, h3, h4⟩
        exact ⟨fun x hx => h4 w x rfl hx, h2, h3, fun w' x hw => by simp at hw⟩
    | cons y a =>
      simp only [List.cons_append, List.head?_cons, Option.some.injEq, List.getLast?_cons_cons]
      constructor
      · rintro ⟨h1, h2, h3, h4⟩; exact ⟨⟨h1, h2⟩, h3, h4⟩
      · rintro ⟨⟨h1, h2⟩, h3, h4⟩; exact ⟨h1, h2, h3, h4⟩

/-- Nodes that lie in one another as they may; the first is no deeper than none. -/
structure Nest (l : List Inl) : Prop where
  head : ∀ x, l.head? = some x → x.depth = 0
  chain : Chained l
  kinds : ∀ x ∈ l, kindOk x

theorem Nest.nil : Nest [] := ⟨fun x h => by simp at h, trivial, fun x h => by simp at h⟩
theorem Nest.one {x : Inl} (hd : x.depth = 0) (hk : kindOk x) : Nest [x] := ⟨fun y h => by simp at h; rw [← h]; exact hd, trivial, fun y h => by simp at h; rw [h]; exact hk⟩
theorem Nest.append {a b : List Inl} (ha : Nest a) (hb : Nest b) : Nest (a ++ b) := by
  refine ⟨?_, (chained_append a b).2 ⟨ha.chain, hb.chain, fun w x _ hx => ?_⟩, fun x hx => ?_⟩
  · intro x hx
    cases a with
    | nil => exact hb.head x hx
    | cons y a => exact ha.head x hx
  · have := hb.head x hx
    exact ⟨by omega, fun h => by omega⟩
  · rcases List.mem_append.1 hx with h | h
    · exact ha.kinds x h
    · exact hb.kinds x h
theorem Nest.flat {α : Type} (f : α → List Inl) : ∀ (l : List α), (∀ x ∈ l, Nest (f x)) → Nest (l.flatMap f)
  | [], _ => Nest.nil
  | x :: l, h => by
    rw [List.flatMap_cons]
    exact (h x (List.mem_cons_self ..)).append (Nest.flat f l fun y hy => h y (List.mem_cons_of_mem _ hy))
theorem chained_deeper : ∀ (l : List Inl), Chained l → Chained (deeperL l)
  | [], _ => trivial
  | [x], _ => trivial
  | w :: x :: l, h => by
    obtain ⟨h1, h2⟩ := h
    exact ⟨⟨Nat.succ_le_succ h1.1, fun hd => h1.2 (Nat.lt_of_succ_lt_succ hd)⟩, chained_deeper (x :: l) h2⟩
theorem Nest.within {x : Inl} {l : List Inl} (hd : x.depth = 0) (hc : cont x.kind = true) (hk : kindOk x) (h : Nest l) : Nest (x :: deeperL l) := by
  refine ⟨fun y hy => by simp at hy; rw [← hy]; exact hd, (chained_cons _ _).2 ⟨fun y hy => ?_, chained_deeper l h.chain⟩, fun y hy => ?_⟩
  · cases l with
    | nil => simp [deeperL] at hy
    | cons z l =>
      simp [deeperL] at hy
      have := h.head z rfl
      rw [← hy]
      exact ⟨by show z.depth + 1 ≤ x.depth + 1; omega, fun _ => hc⟩
  · rcases List.mem_cons.1 hy with rfl | hy
    · exact hk
    · obtain ⟨z, hz, rfl⟩ := List.mem_map.1 hy
      exact h.kinds z hz

theorem flat_deeper {α : Type} (f : α → List Inl) (l : List α) : (l.flatMap fun x => deeperL (f x)) = deeperL (l.flatMap f) := by
  unfold deeperL; rw [List.map_flatMap]
theorem made_deeper (k : Nat) (mid : List Piece) : madeL k mid = ⟨k, 0, [], [], []⟩ :: deeperL (mid.flatMap Piece.nodes) := by
  unfold madeL; rw [flat_deeper]

/-! ### Group -/
theorem words_nest (l : List UInt8) : Nest [wordsI l] := Nest.one rfl (kOk 1 rfl rfl)
theorem nodes_nest {p : Piece} (h : Nest p.it.l) : Nest p.nodes := by
  unfold Piece.nodes
  split
  · exact h
  · split
    · exact words_nest _
    · exact Nest.nil
def AllNest (p : List Piece) : Prop := ∀ x ∈ p, Nest x.it.l
theorem noPiece_nest : Nest noPiece.it.l := Nest.nil
theorem allNest_getD {p : List Piece} (h : AllNest p) (i : Nat) : Nest (p.getD i noPiece).it.l := by
  by_cases hi : i < p.length
  · rw [getD_in _ _ _ hi]; exact h _ (List.getElem_mem hi)
  · rw [getD_out _ _ _ (by omega)]; exact noPiece_nest
theorem AllNest.sub {p q : List Piece} (h : AllNest p) (hs : ∀ x ∈ q, x ∈ p) : AllNest q := fun x hx => h x (hs x hx)
theorem pairK_cont (o c : Piece) : cont (pairK o c) = true ∧ 1 ≤ pairK o c ∧ pairK o c ≤ 12 := by
  unfold pairK; split <;> exact ⟨rfl, by decide, by decide⟩
theorem step_nest {p : List Piece} (h : AllNest p) (i : Nat) : AllNest (groupStep p i).1 := by
  unfold groupStep
  split
  · exact h
  · split
    · intro x hx
      rcases List.mem_or_eq_of_mem_set hx with hx | rfl
      · exact h x hx
      · exact allNest_getD h i
    · rename_i f _
      intro x hx
      simp only [List.mem_append, List.mem_cons, List.not_mem_nil, or_false] at hx
      rcases hx with (hx | rfl | rfl | rfl) | hx
      · exact h x (List.mem_of_mem_take hx)
      · exact allNest_getD h f
      · have hk := pairK_cont (p.getD f noPiece) (p.getD i noPiece)
        show Nest (madeL _ _)
        rw [made_deeper]
        exact Nest.within rfl hk.1 hk.2 (Nest.flat _ _ fun x hx => nodes_nest (h x (List.mem_of_mem_take (List.mem_of_mem_drop hx))))
      · exact allNest_getD h i
      · exact h x (List.mem_of_mem_drop hx)
theorem go_nest : ∀ (f : Nat) (p : List Piece) (i : Nat), AllNest p → AllNest (groupGo f p i)
  | 0, p, i, h => h
  | f + 1, p, i, h => by
    rw [groupGo]
    split
    · exact h
    · exact go_nest f _ _ (step_nest h i)

/-! ### Merge -/
/-- What Merge leaves: no words are empty, none stand side by side. -/
def Apart : List Inl → Prop
  | [] => True
  | [x] => x.kind = 1 → x.text ≠ []
  | w :: x :: l => (w.kind = 1 → w.text ≠ []) ∧ ¬ (w.kind = 1 ∧ x.kind = 1 ∧ w.depth = x.depth) ∧ Apart (x :: l)
theorem apart_snoc : ∀ (a : List Inl) (x : Inl), Apart a → (x.kind = 1 → x.text ≠ []) → (∀ w, a.getLast? = some w → ¬ (w.kind = 1 ∧ x.kind = 1 ∧ w.depth = x.depth)) → Apart (a ++ [x])
  | [], x, _, hx, _ => hx
  | [w], x, hw, hx, hl => ⟨hw, hl w rfl, hx⟩
  | w :: y :: a, x, h, hx, hl => ⟨h.1, h.2.1, apart_snoc (y :: a) x h.2.2 hx (by intro z hz; exact hl z (by rw [List.getLast?_cons_cons]; exact hz))⟩
theorem apart_last : ∀ (a : List Inl) (t t' : Inl), Apart (a ++ [t]) → t'.kind = t.kind → t'.depth = t.depth → (t'.kind = 1 → t'.text ≠ []) → Apart (a ++ [t'])
  | [], t, t', _, _, _, h => h
  | [w], t, t', h, hk, hd, ht => ⟨h.1, by rw [hk, hd]; exact h.2.1, ht⟩
  | w :: y :: a, t, t', h, hk, hd, ht => ⟨h.1, h.2.1, apart_last (y :: a) t t' h.2.2 hk hd ht⟩

theorem last_split {a : List Inl} {t : Inl} (h : a.getLast? = some t) : a = a.dropLast ++ [t] := by
  have hne : a ≠ [] := by rintro rfl; simp at h
  rw [List.getLast?_eq_some_getLast hne] at h
  rw [← Option.some.inj h, List.dropLast_concat_getLast]

/-- One step of Merge keeps what stands behind in its place. -/
theorem mergeStep_keeps (out rest : List Inl) (x : Inl) (ha : Apart out) (h : Nest (out ++ x :: rest)) : Apart (mergeStep out x) ∧ Nest (mergeStep out x ++ rest) := by
  have hkx : kindOk x := h.kinds x (by simp)
  have hw : (wordsOnly x).kind = x.kind ∧ (wordsOnly x).depth = x.depth ∧ (wordsOnly x).text = x.text := by unfold wordsOnly; split <;> simp
  -- the new list, with x turned
  have hput : ∀ y : Inl, y.kind = x.kind → y.depth = x.depth → Nest (out ++ [y] ++ rest) := by
    intro y hyk hyd
    have hc := h.chain
    rw [chained_append, chained_cons] at hc
    refine ⟨?_, ?_, ?_⟩
    · intro z hz
      cases out with
      | nil => simp at hz; rw [← hz, hyd]; exact h.head x rfl
      | cons o out => simp at hz; rw [← hz]; exact h.head o rfl
    · rw [List.append_assoc, List.singleton_append, chained_append, chained_cons]
      refine ⟨hc.1, ⟨fun z hz => ?_, hc.2.1.2⟩, fun w z hw' hz => ?_⟩
      · have := hc.2.1.1 z hz
        unfold okAfter at this ⊢
        rw [hyk, hyd]; exact this
      · simp at hz
        have := hc.2.2 w x hw' rfl
        unfold okAfter at this ⊢
        rw [← hz, hyd]; exact this
    · intro z hz
      simp only [List.mem_append, List.mem_singleton] at hz
      rcases hz with (hz | rfl) | hz
      · exact h.kinds z (by simp [hz])
      · unfold kindOk; rw [hyk]; exact hkx
      · exact h.kinds z (by simp [hz])
  -- the list without x, where x is words of no deeper place
  have hskip : x.kind = 1 → (∀ t, out.getLast? = some t → True) → Nest (out ++ rest) := by
    intro hk _
    have hc := h.chain
    rw [chained_append, chained_cons] at hc
    refine ⟨?_, ?_, ?_⟩
    · intro z hz
      cases out with
      | nil =>
        have h0 := h.head x rfl
        have := (hc.2.1.1 z hz)
        have hn : ¬ x.depth < z.depth := fun hh => by have := this.2 hh; rw [hk] at this; cases this
        omega
      | cons o out => simp at hz; rw [← hz]; exact h.head o rfl
    · rw [chained_append]
      refine ⟨hc.1, hc.2.1.2, fun w z hw' hz => ?_⟩
      have h1 := hc.2.2 w x hw' rfl
      have h2 := hc.2.1.1 z hz
      have hn : ¬ x.depth < z.depth := fun hh => by have := h2.2 hh; rw [hk] at this; cases this
      exact ⟨by have := h1.1; omega, fun hd => h1.2 (by omega)⟩
    · intro z hz
      rcases List.mem_append.1 hz with hz | hz
      · exact h.kinds z (by simp [hz])
      · exact h.kinds z (by simp [hz])
  unfold mergeStep
  split
  · rename_i hx
    exact ⟨ha, hskip hx.1 fun _ _ => trivial⟩
  · rename_i hx
    have hx1 : x.kind = 1 → x.text ≠ [] := fun hk ht => hx ⟨hk, ht⟩
    split
    · rename_i t ht
      split
      · rename_i hm
        obtain ⟨m1, m2, m3⟩ := hm
        have hsp := last_split ht
        refine ⟨apart_last out.dropLast t _ (by rw [← hsp]; exact ha) rfl rfl (fun _ => by simp [hx1 m1]), ?_⟩
        have hn := hskip m1 fun _ _ => trivial
        -- the last turned
        rw [hsp] at hn
        have hc := hn.chain
        rw [List.append_assoc, List.singleton_append, chained_append, chained_cons] at hc
        refine ⟨?_, ?_, ?_⟩
        · intro z hz
          cases hd : out.dropLast with
          | nil =>
            rw [hd] at hz
            simp at hz
            rw [← hz]
            exact hn.head t (by rw [hd]; rfl)
          | cons o os =>
            rw [hd] at hz
            simp at hz
            rw [← hz]
            exact hn.head o (by rw [hd]; rfl)
        · rw [List.append_assoc, List.singleton_append, chained_append, chained_cons]
          refine ⟨hc.1, ⟨fun z hz => hc.2.1.1 z hz, hc.2.1.2⟩, fun w z hw' hz => ?_⟩
          simp at hz
          rw [← hz]
          exact hc.2.2 w t hw' rfl
        · intro z hz
          simp only [List.mem_append, List.mem_singleton] at hz
          rcases hz with (hz | rfl) | hz
          · exact hn.kinds z (by simp [hz])
          · exact hn.kinds t (by simp)
          · exact hn.kinds z (by simp [hz])
      · rename_i hm
        refine ⟨apart_snoc out _ ha (by rw [hw.1, hw.2.2]; exact hx1) (fun w hw' => ?_), hput _ hw.1 hw.2.1⟩
        rw [ht] at hw'
        obtain rfl := Option.some.inj hw'
        rw [hw.1, hw.2.1]
        rintro ⟨q1, q2, q3⟩
        exact hm ⟨q2, q1, q3⟩
    · rename_i hn
      exact ⟨apart_snoc out _ ha (by rw [hw.1, hw.2.2]; exact hx1) (fun w hw' => by rw [hn] at hw'; cases hw'), hput _ hw.1 hw.2.1⟩
theorem merge_keeps : ∀ (l out : List Inl), Apart out → Nest (out ++ l) → Apart (l.foldl mergeStep out) ∧ Nest (l.foldl mergeStep out)
  | [], out, ha, hn => ⟨ha, by simpa using hn⟩
  | x :: l, out, ha, hn => by
    rw [List.foldl_cons]
    obtain ⟨h1, h2⟩ := mergeStep_keeps out l x ha hn
    exact merge_keeps l _ h1 h2
theorem merge_nest {l : List Inl} (h : Nest l) : Apart (mergeL l) ∧ Nest (mergeL l) := merge_keeps l [] trivial h

def ItemsNest (l : List IItem) : Prop := ∀ x ∈ l, Nest x.l
theorem group_nest {l : List IItem} (h : ItemsNest l) : Apart (groupL l) ∧ Nest (groupL l) := by
  refine merge_nest (Nest.flat _ _ fun x hx => nodes_nest ?_)
  refine go_nest _ _ 0 (fun y hy => ?_) x hx
  obtain ⟨z, hz, rfl⟩ := List.mem_map.1 hy
  exact h z hz

/-! ### Parse -/
theorem put_nest {st : PSt} {l : List Inl} (h : ItemsNest st.items) (hl : Nest l) : ItemsNest (st.put l).items := fun x hx => by
  rcases List.mem_append.1 hx with hx | hx
  · exact h x hx
  · simp at hx; rw [hx]; exact hl
theorem ItemsNest.take {l : List IItem} (h : ItemsNest l) (n : Nat) : ItemsNest (l.take n) := fun x hx => h x (List.mem_of_mem_take hx)
theorem ItemsNest.drop {l : List IItem} (h : ItemsNest l) (n : Nat) : ItemsNest (l.drop n) := fun x hx => h x (List.mem_of_mem_drop hx)
theorem ItemsNest.append {a b : List IItem} (ha : ItemsNest a) (hb : ItemsNest b) : ItemsNest (a ++ b) := fun x hx => by
  rcases List.mem_append.1 hx with hx | hx
  · exact ha x hx
  · exact hb x hx
theorem asked_nest (t : Option (List DefL)) (x : List UInt8) (h : (askedL t x).2 = true) : Nest [(askedL t x).1] := by
  unfold askedL at h ⊢
  split
  · exact Nest.one rfl (kOk 10 rfl rfl)
  · rename_i h1
    rw [if_neg h1] at h
    split
    · rename_i h2; rw [if_pos h2] at h; cases h
    · exact Nest.one rfl (kOk 11 rfl rfl)
theorem link_kind (t : Option (List DefL)) (x b : List UInt8) : (inlLinkL t x b).1.kind = 5 ∧ (inlLinkL t x b).1.depth = 0 := by
  unfold inlLinkL; split <;> exact ⟨rfl, rfl⟩
theorem closeOpen_nest (t : Option (List DefL)) (s : List UInt8) (st : PSt) (o : Opn) (i next : Nat) (h : ItemsNest st.items) : ItemsNest (closeOpen t s st o i next).1.items := by
  have hl := link_kind t ((s.take i).drop o.fin) (s.drop next)
  unfold closeOpen
  split
  · exact put_nest h (words_nest _)
  · split
    · rename_i ha
      exact put_nest (h.take _) (asked_nest t _ ha.1)
    · split
      · exact put_nest h (words_nest _)
      · split
        · exact put_nest (h.take _) (Nest.one hl.2 ⟨by show 1 ≤ 6; decide, by show 6 ≤ 12; decide⟩)
        · refine put_nest (st := { st with items := st.items.take o.at' }) (h.take _) (Nest.within hl.2 (by rw [hl.1]; rfl) ⟨by rw [hl.1]; decide, by rw [hl.1]; decide⟩ (group_nest (h.drop _)).2)
theorem close_nest (t : Option (List DefL)) (s : List UInt8) (st : PSt) (i next : Nat) (h : ItemsNest st.items) : ItemsNest (closeL t s st i next).1.items := by
  unfold closeL
  split
  · exact put_nest h (words_nest _)
  · exact closeOpen_nest t s _ _ i next h
theorem token_nest (t : Option (List DefL)) (s : List UInt8) (ts : List AtomT) (P : List UInt8 → List Inl) (hP : ∀ x, Nest (P x)) (st : PSt) (k : Tok) (i next : Nat) (h : ItemsNest st.items) : ItemsNest (tokenL t s ts P st k i next).1.items := by
  unfold tokenL
  split
  · exact put_nest h (words_nest _)
  · exact put_nest h (Nest.one rfl (kOk 2 rfl rfl))
  · exact put_nest h (Nest.one rfl (kOk 9 rfl rfl))
  · exact put_nest h (Nest.within rfl rfl (kOk 5 rfl rfl) (words_nest _))
  · rename_i b
    exact put_nest h (Nest.one rfl (by cases b <;> exact ⟨by decide, by decide⟩))
  · split
    · exact put_nest h (Nest.within rfl rfl (kOk 12 rfl rfl) (hP _))
    · exact h
  · refine ItemsNest.append h fun x hx => ?_
    simp at hx; rw [hx]; exact Nest.nil
  · split
    · exact close_nest t s st i next h
    · exact put_nest h (words_nest _)
theorem parseGo_nest (t : Option (List DefL)) (s : List UInt8) (ts : List AtomT) (P : List UInt8 → List Inl) (hP : ∀ x, Nest (P x)) : ∀ (f : Nat) (st : PSt) (i : Nat), ItemsNest st.items → ItemsNest (parseGo f t s ts P st i).items
  | 0, st, i, h => h
  | f + 1, st, i, h => by
    rw [parseGo]
    split
    · exact h
    · exact parseGo_nest t s ts P hP f _ _ (token_nest t s ts P hP st _ _ _ h)
theorem parse_nest (t : Option (List DefL)) (s : List UInt8) (ts : List AtomT) (P : List UInt8 → List Inl) (hP : ∀ x, Nest (P x)) : Apart (parseWith t s ts P) ∧ Nest (parseWith t s ts P) :=
  group_nest (parseGo_nest t s ts P hP _ _ 0 fun x hx => by simp at hx)
theorem parse0_nest (t : Option (List DefL)) (s : List UInt8) : Apart (parse0 t s) ∧ Nest (parse0 t s) := parse_nest t s [] _ fun _ => Nest.nil
theorem parseL_nest (t : Option (List DefL)) (s : List UInt8) (ts : List AtomT) : Apart (parseL t s ts) ∧ Nest (parseL t s ts) := parse_nest t s ts _ fun x => (parse0_nest t x).2

end Go.Proofs.YtahljcbmckldhaaGreatDoor

/-
  emph.Merge: nodes with one Words instead of many side by side.
-/
namespace Go.Proofs.YtahljcbmckldhaaGreatDoor
open Go.RowKit
set_option maxRecDepth 100000
set_option linter.unusedVariables false
set_option linter.unusedSimpArgs false

theorem own_drewN {w : World} {base : Nat} {e : TypeId} {size : Nat} {v : Value} {n : Nat} {xs : List Value} (h : w.ownsRow base e size v n xs) (k : Nat) : (w.drewN k).ownsRow base e size v n xs := h
theorem below_drewsN {B : Nat} {a w : World} (h : Below B a w) (k : Nat) : Below B a (w.drewN k) := ⟨h.os, h.tape, h.output, h.size, h.block⟩

theorem nothing_any (s : ByteArray) (w : World) :
    Calls Tryz.prog 60 #[.string s] w fun e w' => e = .returned (.bool (decide (s.size = 0))) ∧ Below w.heap.size w w' := by
  obtain ⟨R, hR⟩ : ∃ R, decide (s.size = 0) = R := ⟨_, rfl⟩
  rw [hR]
  have HR := Lib.hid hR
  clear hR
  go_enter Tryz.func60, Tryz.ntmps60
  go_wp2_with fail
  go_loopw [] (fun wr => ∃ pos : Nat, pos ≤ s.size ∧ (0 < s.size → pos = 0) ∧ wr.heap[w.heap.size]? = some (.stringIter s pos) ∧ Below w.heap.size w wr) (fun wr => s.size - wr.iterPos w.heap.size)
  case atStart =>
    refine ⟨0, by omega, fun _ => rfl, ?_, (Below.refl _ w).alloc (Nat.le_refl _) _⟩
    have := World.iter_heap w s 0
    simpa using this
  case round =>
    obtain ⟨pos, hp, hp0, hit, hbw⟩ := hrel
    have hsz : w.heap.size < wr.heap.size := (Array.getElem?_eq_some_iff.1 hit).1
    by_cases hlt : 0 < s.size
    · obtain rfl := hp0 hlt
      have hnx : ∀ ty, (Instr.next (.pointer (some ⟨w.heap.size, 0, none⟩)) true ty).run Tryz.prog wr = _ := fun ty => Lib.run_next_any_at wr w.heap.size s 0 ty hit hlt
      have hbw2 := Lib.below_iterAt hbw (k := w.heap.size) (by omega) s (0 + (Utf8.decode s 0).2)
      obtain ⟨r, n, hrn⟩ : ∃ r n, Utf8.decode s 0 = (r, n) := ⟨_, _, rfl⟩
      rw [hrn] at hnx hbw2
      rw [Nat.zero_add] at hbw2
      have HS := Lib.hid (show R = false by rw [← HR.out, decide_eq_false_iff_not]; omega)
      clear hp hp0 hrn hlt
      go_wp2_with fail
      go_ret
      exact ⟨by rw [HS.out]; rfl, hbw2⟩
    · have hs0 : s.size = 0 := by omega
      obtain rfl : pos = s.size := by omega
      have hnx : ∀ ty, (Instr.next (.pointer (some ⟨w.heap.size, 0, none⟩)) true ty).run Tryz.prog wr = _ := fun ty => Lib.run_next_end_at wr w.heap.size s s.size ty hit (Nat.lt_irrefl _)
      have HS := Lib.hid (show R = true by rw [← HR.out, decide_eq_true_eq]; omega)
      clear hp hp0 hlt hs0
      go_wp2_with fail
      go_ret
      exact ⟨by rw [HS.out]; rfl, hbw⟩


theorem own_in {w : World} {base : Nat} {v : Value} {out : List Inl} (h : w.ownsRow base 28 5 v out.length (inlCells out)) (m : Nat) (hm : out.length = m + 1) :
    ∃ g cap, v = .slice (some ⟨g, 0, none⟩) (m + 1) cap ∧ base ≤ g := by
  rcases h.2 with ⟨_, h2⟩ | ⟨g, cap, cur, hv, hb, _⟩
  · omega
  · exact ⟨g, cap, by rw [← hm]; exact hv, hb⟩

/-- A local of five cells, behind a call. -/
theorem local5 {w w2 : World} {T : TypeId} {u0 u1 u2 u3 u4 : Value} (hb : Below (w.alloc (.cells #[u0, u1, u2, u3, u4] T)).heap.size (w.alloc (.cells #[u0, u1, u2, u3, u4] T)) w2) :
    w2.cell? ⟨w.heap.size, 0, none⟩ = some u0 ∧ w2.cell? ⟨w.heap.size, 1, none⟩ = some u1 ∧ w2.cell? ⟨w.heap.size, 2, none⟩ = some u2 ∧ w2.cell? ⟨w.heap.size, 3, none⟩ = some u3 ∧ w2.cell? ⟨w.heap.size, 4, none⟩ = some u4 :=
  ⟨(hb.cell (p := ⟨w.heap.size, 0, none⟩) (by simp)).trans (by simp), (hb.cell (p := ⟨w.heap.size, 1, none⟩) (by simp)).trans (by simp), (hb.cell (p := ⟨w.heap.size, 2, none⟩) (by simp)).trans (by simp), (hb.cell (p := ⟨w.heap.size, 3, none⟩) (by simp)).trans (by simp), (hb.cell (p := ⟨w.heap.size, 4, none⟩) (by simp)).trans (by simp)⟩
theorem flat_set {α : Type} (f : α → List Value) (k : Nat) (hf : ∀ x, (f x).length = k) (l : List α) (x y : α) (j : Nat) (u : Value) (hj : j < k) (hu : (f x).set j u = f y) : ((l ++ [x]).flatMap f).set (l.length * k + j) u = (l ++ [y]).flatMap f := by
  rw [List.flatMap_append, List.flatMap_append, List.set_append_right _ _ (by rw [flat_len f k hf]; omega), flat_len f k hf]
  congr 1
  rw [List.flatMap_cons, List.flatMap_nil, List.append_nil, List.flatMap_cons, List.flatMap_nil, List.append_nil, ← hu]
  congr 1; omega

theorem ba_cat (a b : List UInt8) : (⟨a.toArray⟩ : ByteArray) ++ ⟨b.toArray⟩ = ⟨(a ++ b).toArray⟩ := by
  have h : ((⟨a.toArray⟩ : ByteArray) ++ ⟨b.toArray⟩).data = (a ++ b).toArray := by simp
  cases hx : ((⟨a.toArray⟩ : ByteArray) ++ ⟨b.toArray⟩) with
  | mk d => rw [hx] at h; simp only at h; rw [h]
def textSum (l : List Inl) : Nat := (l.map fun x => x.text.length).sum
theorem textSum_append (a b : List Inl) : textSum (a ++ b) = textSum a + textSum b := by unfold textSum; simp
theorem textSum_one (x : Inl) : textSum [x] = x.text.length := by simp [textSum]
theorem step_len (out : List Inl) (x : Inl) : (mergeStep out x).length ≤ out.length + 1 := by
  unfold mergeStep
  split
  · omega
  · split
    · rename_i t ht
      split
      · have := last_split ht
        have := congrArg List.length this
        simp at this ⊢
      · simp
    · simp
theorem wordsOnly_text (x : Inl) : (wordsOnly x).text = x.text := by unfold wordsOnly; split <;> rfl
theorem step_sum (out : List Inl) (x : Inl) : textSum (mergeStep out x) ≤ textSum out + x.text.length := by
  unfold mergeStep
  split
  · omega
  · split
    · rename_i t ht
      split
      · have h := congrArg textSum (last_split ht)
        rw [textSum_append, textSum_one] at h
        rw [textSum_append, textSum_one]
        simp only [List.length_append]
        omega
      · rw [textSum_append, textSum_one, wordsOnly_text]; omega
    · rw [textSum_append, textSum_one, wordsOnly_text]; omega
theorem merge_take (l : List Inl) (k : Nat) (x : Inl) (h : l[k]? = some x) : mergeL (l.take (k + 1)) = mergeStep (mergeL (l.take k)) x := by
  rw [take_snoc l k x h]
  unfold mergeL
  rw [List.foldl_append]; rfl
theorem textSum_mem {l : List Inl} {x : Inl} (h : x ∈ l) : x.text.length ≤ textSum l := by
  induction l with
  | nil => cases h
  | cons y l ih =>
    rw [show y :: l = [y] ++ l from rfl, textSum_append, textSum_one]
    rcases List.mem_cons.1 h with rfl | h
    · omega
    · have := ih h; omega

set_option maxHeartbeats 8000000 in
/-- Nodes with one Words instead of many side by side. -/
theorem merge_any (v : Value) (l : List Inl) (w : World) (hl : InlsAt w v l) (hn : l.length ≤ 1000000000000) (hts : textSum l ≤ 100000000000000) :
    Calls Tryz.prog 36 #[v] w fun e w' => ∃ v', e = .returned v' ∧ w'.ownsRow w.heap.size 28 5 v' (mergeL l).length (inlCells (mergeL l)) ∧ Below w.heap.size w w' := by
  obtain ⟨i0, hi, hz0, hz1, hz2⟩ := info_parts infoInl
  obtain ⟨ao, c, hlv, hR, _⟩ := own_slice hl
  subst hlv
  have HR := Lib.hid hR
  have HT := Lib.hid hts
  clear hl hR hts
  go_enter Tryz.func36, Tryz.ntmps36
  go_wp2_with fail
  go_loopw [3, 9] (fun u3 u9 wr => ∃ k : Nat, k ≤ l.length ∧ u9 = .int .i64 k ∧ wr.ownsRow w.heap.size 28 5 u3 (mergeL (l.take k)).length (inlCells (mergeL (l.take k))) ∧ Below w.heap.size w wr ∧ (mergeL (l.take k)).length ≤ k ∧ textSum (mergeL (l.take k)) ≤ textSum (l.take k)) (fun _ u9 _ => l.length - (intOf u9).toNat)
  case atStart => exact ⟨0, Nat.zero_le _, rfl, World.ownsRow_nil _ _ _ _, Below.refl _ _, Nat.le_refl _, Nat.le_refl _⟩
  case round =>
    obtain ⟨k, hk, rfl, hown, hB, hol, hos⟩ := hrel
    by_cases hlt : k < l.length
    · obtain ⟨x, hx⟩ := getElem?_ex l k hlt
      obtain ⟨g, o, rfl⟩ := HR.out.addr (by omega)
      obtain ⟨c0, c1, c2, c3, c4⟩ := (HR.out.below hB).inl k x hx
      have HM := Lib.hid (merge_take l k x hx)
      have hsum : textSum (l.take (k + 1)) = textSum (l.take k) + x.text.length := by rw [take_snoc l k x hx, textSum_append, textSum_one]
      have hxs := textSum_mem (List.mem_of_getElem? hx)
      have HS := Lib.hid hsum
      have HX := Lib.hid hxs
      clear hx hsum hxs
      obtain ⟨out, hout⟩ : ∃ out, mergeL (l.take k) = out := ⟨_, rfl⟩
      rw [hout] at hown hol hos
      have hst1 := step_len out x
      have hst2 := step_sum out x
      obtain ⟨out', hout'⟩ : ∃ o, mergeStep out x = o := ⟨_, rfl⟩
      rw [hout'] at hst1 hst2
      have HM' := Lib.hid (show mergeL (l.take (k + 1)) = out' by rw [HM.out, hout, hout'])
      have HST := Lib.hid hout'
      have HOS := Lib.hid hos
      have HST2 := Lib.hid hst2
      clear HM hout hout' hos hst2
      by_cases hk1 : x.kind = 1
      · have hkk : ((x.kind : Int) == 1) = true := by rw [hk1]; rfl
        have hno := fun W => nothing_any ⟨x.text.toArray⟩ W
        have hba : (⟨x.text.toArray⟩ : ByteArray).size = x.text.length := by rw [Lib.size_eq]
        rw [hba] at hno
        by_cases ht0 : x.text = []
        · have HO' := Lib.hid (show out' = out by
            rw [← HST.out]; unfold mergeStep
            rw [if_pos ⟨hk1, ht0⟩])
          rw [show decide (x.text.length = 0) = true by rw [ht0]; rfl] at hno
          have HNO := Lib.hid hno
          clear hno hba ht0 hk1
          obtain ⟨ao2, cap2, hu3, _⟩ := own_slice hown
          subst hu3
          have hB1 := hB.alloc hB.size (.cells #[.int .i64 (x.kind : Int), .int .i64 (x.depth : Int), .string ⟨x.text.toArray⟩, .string ⟨#[]⟩, .string ⟨#[]⟩] 28)
          have hown1 := hown.alloc (.cells #[.int .i64 (x.kind : Int), .int .i64 (x.depth : Int), .string ⟨x.text.toArray⟩, .string ⟨#[]⟩, .string ⟨#[]⟩] 28)
          go_wp2_with fail
          refine (HNO.out _).mono ?_
          rintro e w2 ⟨rfl, b2⟩
          have hB2 := hB1.trans (b2.mono hB1.size)
          have hown2 := own_below hown1 b2
          clear b2 hB1 hown1 hown hB
          have HO := Lib.hid (show w2.ownsRow w.heap.size 28 5 (.slice ao2 out.length cap2) (mergeL (l.take (k + 1))).length (inlCells (mergeL (l.take (k + 1)))) by
            rw [HM'.out, HO'.out]; exact hown2)
          have HL1 := Lib.hid (show (mergeL (l.take (k + 1))).length ≤ k + 1 by rw [HM'.out]; omega)
          have HL2 := Lib.hid (show textSum (mergeL (l.take (k + 1))) ≤ textSum (l.take (k + 1)) by
            rw [HM'.out, HS.out]; have h1 := HOS.out; have h2 := HST2.out; omega)
          clear hown2
          go_wp2_with fail
          go_roundw
          case rel => exact ⟨k + 1, by omega, by go_num, HO.out, hB2, HL1.out, HL2.out⟩
          case measure => simp [intOf]; omega
        · rw [show decide (x.text.length = 0) = false by
            rw [decide_eq_false_iff_not]
            exact fun e => ht0 (List.eq_nil_of_length_eq_zero e)] at hno
          have HNO := Lib.hid hno
          have hwo : wordsOnly x = ⟨x.kind, x.depth, x.text, [], []⟩ := by unfold wordsOnly; rw [if_pos hk1]
          clear hno hba
          have hB1 := hB.alloc hB.size (.cells #[.int .i64 (x.kind : Int), .int .i64 (x.depth : Int), .string ⟨x.text.toArray⟩, .string ⟨#[]⟩, .string ⟨#[]⟩] 28)
          have hown1 := hown.alloc (.cells #[.int .i64 (x.kind : Int), .int .i64 (x.depth : Int), .string ⟨x.text.toArray⟩, .string ⟨#[]⟩, .string ⟨#[]⟩] 28)
          cases hgl : out.getLast? with
          | none =>
            have HO' := Lib.hid (show out' = out ++ [⟨x.kind, x.depth, x.text, [], []⟩] by
              rw [← HST.out]; unfold mergeStep
              rw [if_neg (fun h => ht0 h.2), hgl, hwo])
            obtain rfl : out = [] := List.getLast?_eq_none_iff.1 hgl
            clear hwo ht0 hk1 hgl
            obtain ⟨ao2, cap2, hu3, _⟩ := own_slice hown
            subst hu3
            go_wp2_with fail
            refine (HNO.out _).mono ?_
            rintro e w2 ⟨rfl, b2⟩
            have hB2 := hB1.trans (b2.mono hB1.size)
            have hown2 := own_below hown1 b2
            obtain ⟨d0, d1, d2, d3, d4⟩ := local5 b2
            clear b2 hB1 hown1 hB
            have hB := hB2
            go_wp2_with fail
            go_quiet (fail)
            go_wp2_with (first
              | (at_builtin; refine wpList_append_own _ rfl _ _ 25 rfl w.heap.size 28 i0 (.agg #[.int .i64 0, .int .i64 0, .string ⟨#[]⟩, .string ⟨#[]⟩, .string ⟨#[]⟩]) 5 64 Tryz.underlying25 hi hz0 hz1 hz2 rfl (by decide) _ _ _ rfl ((own_drewN hown2 _).alloc _) ⟨w2.heap.size, 0, none⟩ 1 1 [.int .i64 (x.kind : Int), .int .i64 (x.depth : Int), .string ⟨x.text.toArray⟩, (.string ⟨#[]⟩), (.string ⟨#[]⟩)] rfl rfl ?c1 ?c2 ?c3 ?c4 ?c5 ?_))
            case c1 => exact cells_new _ _ _ _ (by simp)
            case c2 => intro u hu; simp at hu; rcases hu with rfl | rfl | rfl | rfl | rfl <;> rfl
            case c3 => unfold maxLen; omega
            case c4 => omega
            case c5 => have := hB.size; simp; omega
            intro v' w4 hown4 hgrow _
            have hBQ := below_drewsN hB2 nq
            have hB4 := (hBQ.alloc hBQ.size (.cells #[.int .i64 (x.kind : Int), .int .i64 (x.depth : Int), .string ⟨x.text.toArray⟩, (.string ⟨#[]⟩), (.string ⟨#[]⟩)] 28)).grown hgrow (by have := hBQ.size; simp at this ⊢; omega) (fun j hj => (hown.lt j hj).1)
            have HO := Lib.hid (show w4.ownsRow w.heap.size 28 5 v' (mergeL (l.take (k + 1))).length (inlCells (mergeL (l.take (k + 1)))) by
              rw [HM'.out, HO'.out, inlCells_append, inlCells_one, List.length_append]; exact hown4)
            have HL1 := Lib.hid (show (mergeL (l.take (k + 1))).length ≤ k + 1 by rw [HM'.out]; omega)
            have HL2 := Lib.hid (show textSum (mergeL (l.take (k + 1))) ≤ textSum (l.take (k + 1)) by
              rw [HM'.out, HS.out]; have h1 := HOS.out; have h2 := HST2.out; omega)
            clear hgrow hown hB hown4 hBQ
            go_wp2_with fail
            go_roundw
            case rel => exact ⟨k + 1, by omega, by go_num, HO.out, hB4, HL1.out, HL2.out⟩
            case measure => simp [intOf]; omega
          | some t =>
            have hsp := last_split hgl
            obtain ⟨out0, hout0⟩ : ∃ o, out.dropLast = o := ⟨_, rfl⟩
            rw [hout0] at hsp
            have htm : out[out0.length]? = some t := by rw [hsp]; simp
            have htx := textSum_mem (l := out) (List.mem_of_getElem? htm)
            have hmz : out.length = out0.length + 1 := by rw [hsp]; simp
            obtain ⟨m, hm⟩ : ∃ m, out0.length = m := ⟨_, rfl⟩
            rw [hm] at hmz htm
            obtain ⟨g2, cap2, hu3, hg2⟩ := own_in hown m hmz
            subst hu3
            have hmb : m ≤ 1000000000000 := by omega
            have hm0 : (0 : Int) ≤ (m : Int) := by omega
            have hml : (m : Int) < (m : Int) + 1 := by omega
            have HTM := Lib.hid htm
            have HTX := Lib.hid htx
            have HSP := Lib.hid hsp
            have HMM := Lib.hid hm
            have HMZ := Lib.hid hmz
            clear htm htx hsp hm
            by_cases htk : t.kind = 1
            · have htkk : ((t.kind : Int) == 1) = true := by rw [htk]; rfl
              by_cases htd : t.depth = x.depth
              · have htdd : ((t.depth : Int) == (x.depth : Int)) = true := by rw [htd]; simp
                have HO' := Lib.hid (show out' = out0 ++ [{ t with text := t.text ++ x.text }] by
                  rw [← HST.out]; unfold mergeStep
                  rw [if_neg (fun h => ht0 h.2), hgl]
                  simp only
                  rw [if_pos ⟨hk1, htk, htd⟩, hout0])
                clear hwo ht0 hk1 hgl htk htd hout0 hmz
                go_wp2_with fail
                refine (HNO.out _).mono ?_
                rintro e w2 ⟨rfl, b2⟩
                have hB2 := hB1.trans (b2.mono hB1.size)
                have hown2 := own_below hown1 b2
                obtain ⟨d0, d1, d2, d3, d4⟩ := local5 b2
                clear b2 hB1 hown1 hB
                obtain ⟨e0, e1, e2, e3, e4⟩ := RowR.inl (own_rowR hown2).2.1 m t HTM.out
                simp only [Nat.zero_add] at e0 e1 e2 e3 e4
                go_wp2_with fail
                go_quiet (fail)
                go_wp2_with fail
                have hdr : ∀ a, (w2.drewN nq).cell? a = w2.cell? a := fun a => rfl
                have hown3 := own_drewN hown2 nq
                have hB3 := below_drewsN hB2 nq
                rw [← hdr] at d0 d1 d2 d3 d4 e0 e1 e2 e3 e4
                clear hdr hown2 hB2
                obtain ⟨W, hW⟩ : ∃ W, w2.drewN nq = W := ⟨_, rfl⟩
                rw [hW] at d0 d1 d2 d3 d4 e0 e1 e2 e3 e4 hown3 hB3 ⊢
                clear hW
                rw [HMZ.out] at hown3
                have hs3 := (hown3.drew.stored (m * 5 + 2) (.string ((⟨t.text.toArray⟩ : ByteArray) ++ ⟨x.text.toArray⟩))).1
                have hf3 := hown3.frozenAt (m * 5 + 2)
                have hB4 := hB3.drew.setCell (p := ⟨g2, m * 5 + 2, none⟩) (by simpa using hg2) (.string ((⟨t.text.toArray⟩ : ByteArray) ++ ⟨x.text.toArray⟩))
                have hcat : ¬ (9223372036854775807 < t.text.length + x.text.length) := by
                  have h1 := HTX.out; have h2 := HX.out; have h3 := HT.out; have h4 := HOS.out
                  have h5 : textSum (l.take k) ≤ textSum l := by
                    have := textSum_append (l.take k) (l.drop k)
                    rw [List.take_append_drop] at this
                    omega
                  omega
                have HO := Lib.hid (show (W.drew.setCell ⟨g2, m * 5 + 2, none⟩ (.string ((⟨t.text.toArray⟩ : ByteArray) ++ ⟨x.text.toArray⟩))).ownsRow w.heap.size 28 5 (.slice (some ⟨g2, 0, none⟩) (m + 1) cap2) (mergeL (l.take (k + 1))).length (inlCells (mergeL (l.take (k + 1)))) by
                  have hfs := flat_set Inl.cells 5 inl_len out0 t { t with text := t.text ++ x.text } 2 (.string ⟨(t.text ++ x.text).toArray⟩) (by omega) rfl
                  rw [HMM.out] at hfs
                  rw [HM'.out, HO'.out, show (out0 ++ [({ t with text := t.text ++ x.text } : Inl)]).length = out.length by rw [HSP.out]; simp]
                  unfold inlCells at hs3 ⊢
                  rw [HMZ.out, ← hfs, ← HSP.out, ← ba_cat]
                  exact hs3)
                have HL1 := Lib.hid (show (mergeL (l.take (k + 1))).length ≤ k + 1 by rw [HM'.out]; omega)
                have HL2 := Lib.hid (show textSum (mergeL (l.take (k + 1))) ≤ textSum (l.take (k + 1)) by
                  rw [HM'.out, HS.out]; have h1 := HOS.out; have h2 := HST2.out; omega)
                clear hs3 hown3 hB3
                go_still_tail 10, (by kernel_rfl)
                change wpList _ _ _ _ _ W.drew
                have hdr : ∀ a, W.drew.cell? a = W.cell? a := fun a => rfl
                have hdf : ∀ a, W.drew.frozen? a = W.frozen? a := fun a => rfl
                rw [← hdf] at hf3
                rw [← hdr] at e2
                go_wp2_with fail
                go_roundw
                case rel => exact ⟨k + 1, by omega, by go_num, HO.out, hB4, HL1.out, HL2.out⟩
                case measure => simp [intOf]; omega
              · have htdd : ((t.depth : Int) == (x.depth : Int)) = false := by simp; omega
                have HO' := Lib.hid (show out' = out ++ [⟨x.kind, x.depth, x.text, [], []⟩] by
                  rw [← HST.out]; unfold mergeStep
                  rw [if_neg (fun h => ht0 h.2), hgl]
                  simp only
                  rw [if_neg (fun h => htd h.2.2), hwo])
                clear htk htd
                clear hwo ht0 hk1 hgl hout0 hmz
                go_wp2_with fail
                refine (HNO.out _).mono ?_
                rintro e w2 ⟨rfl, b2⟩
                have hB2 := hB1.trans (b2.mono hB1.size)
                have hown2 := own_below hown1 b2
                obtain ⟨d0, d1, d2, d3, d4⟩ := local5 b2
                clear b2 hB1 hown1 hB
                have hB := hB2
                obtain ⟨e0, e1, e2, e3, e4⟩ := RowR.inl (own_rowR hown2).2.1 m t HTM.out
                simp only [Nat.zero_add] at e0 e1 e2 e3 e4
                go_wp2_with fail
                go_quiet (fail)
                go_wp2_with (first
                  | (at_builtin; refine wpList_append_own _ rfl _ _ 25 rfl w.heap.size 28 i0 (.agg #[.int .i64 0, .int .i64 0, .string ⟨#[]⟩, .string ⟨#[]⟩, .string ⟨#[]⟩]) 5 64 Tryz.underlying25 hi hz0 hz1 hz2 rfl (by decide) _ _ _ rfl ((own_drewN hown2 _).alloc _) ⟨w2.heap.size, 0, none⟩ 1 1 [.int .i64 (x.kind : Int), .int .i64 (x.depth : Int), .string ⟨x.text.toArray⟩, (.string ⟨#[]⟩), (.string ⟨#[]⟩)] rfl rfl ?c1 ?c2 ?c3 ?c4 ?c5 ?_))
                case c1 => exact cells_new _ _ _ _ (by simp)
                case c2 => intro u hu; simp at hu; rcases hu with rfl | rfl | rfl | rfl | rfl <;> rfl
                case c3 => unfold maxLen; omega
                case c4 => omega
                case c5 => have := hB.size; simp; omega
                intro v' w4 hown4 hgrow _
                have hBQ := below_drewsN hB2 nq
                have hB4 := (hBQ.alloc hBQ.size (.cells #[.int .i64 (x.kind : Int), .int .i64 (x.depth : Int), .string ⟨x.text.toArray⟩, (.string ⟨#[]⟩), (.string ⟨#[]⟩)] 28)).grown hgrow (by have := hBQ.size; simp at this ⊢; omega) (fun j hj => (hown.lt j hj).1)
                have HO := Lib.hid (show w4.ownsRow w.heap.size 28 5 v' (mergeL (l.take (k + 1))).length (inlCells (mergeL (l.take (k + 1)))) by
                  rw [HM'.out, HO'.out, inlCells_append, inlCells_one, List.length_append]; exact hown4)
                have HL1 := Lib.hid (show (mergeL (l.take (k + 1))).length ≤ k + 1 by rw [HM'.out]; omega)
                have HL2 := Lib.hid (show textSum (mergeL (l.take (k + 1))) ≤ textSum (l.take (k + 1)) by
                  rw [HM'.out, HS.out]; have h1 := HOS.out; have h2 := HST2.out; omega)
                clear hgrow hown hB hown4 hBQ
                go_wp2_with fail
                go_roundw
                case rel => exact ⟨k + 1, by omega, by go_num, HO.out, hB4, HL1.out, HL2.out⟩
                case measure => simp [intOf]; omega
            · have htkk : ((t.kind : Int) == 1) = false := by simp; omega
              have HO' := Lib.hid (show out' = out ++ [⟨x.kind, x.depth, x.text, [], []⟩] by
                rw [← HST.out]; unfold mergeStep
                rw [if_neg (fun h => ht0 h.2), hgl]
                simp only
                rw [if_neg (fun h => htk h.2.1), hwo])
              clear htk
              clear hwo ht0 hk1 hgl hout0 hmz
              go_wp2_with fail
              refine (HNO.out _).mono ?_
              rintro e w2 ⟨rfl, b2⟩
              have hB2 := hB1.trans (b2.mono hB1.size)
              have hown2 := own_below hown1 b2
              obtain ⟨d0, d1, d2, d3, d4⟩ := local5 b2
              clear b2 hB1 hown1 hB
              have hB := hB2
              obtain ⟨e0, e1, e2, e3, e4⟩ := RowR.inl (own_rowR hown2).2.1 m t HTM.out
              simp only [Nat.zero_add] at e0 e1 e2 e3 e4
              go_wp2_with fail
              go_quiet (fail)
              go_wp2_with (first
                | (at_builtin; refine wpList_append_own _ rfl _ _ 25 rfl w.heap.size 28 i0 (.agg #[.int .i64 0, .int .i64 0, .string ⟨#[]⟩, .string ⟨#[]⟩, .string ⟨#[]⟩]) 5 64 Tryz.underlying25 hi hz0 hz1 hz2 rfl (by decide) _ _ _ rfl ((own_drewN hown2 _).alloc _) ⟨w2.heap.size, 0, none⟩ 1 1 [.int .i64 (x.kind : Int), .int .i64 (x.depth : Int), .string ⟨x.text.toArray⟩, (.string ⟨#[]⟩), (.string ⟨#[]⟩)] rfl rfl ?c1 ?c2 ?c3 ?c4 ?c5 ?_))
              case c1 => exact cells_new _ _ _ _ (by simp)
              case c2 => intro u hu; simp at hu; rcases hu with rfl | rfl | rfl | rfl | rfl <;> rfl
              case c3 => unfold maxLen; omega
              case c4 => omega
              case c5 => have := hB.size; simp; omega
              intro v' w4 hown4 hgrow _
              have hBQ := below_drewsN hB2 nq
              have hB4 := (hBQ.alloc hBQ.size (.cells #[.int .i64 (x.kind : Int), .int .i64 (x.depth : Int), .string ⟨x.text.toArray⟩, (.string ⟨#[]⟩), (.string ⟨#[]⟩)] 28)).grown hgrow (by have := hBQ.size; simp at this ⊢; omega) (fun j hj => (hown.lt j hj).1)
              have HO := Lib.hid (show w4.ownsRow w.heap.size 28 5 v' (mergeL (l.take (k + 1))).length (inlCells (mergeL (l.take (k + 1)))) by
                rw [HM'.out, HO'.out, inlCells_append, inlCells_one, List.length_append]; exact hown4)
              have HL1 := Lib.hid (show (mergeL (l.take (k + 1))).length ≤ k + 1 by rw [HM'.out]; omega)
              have HL2 := Lib.hid (show textSum (mergeL (l.take (k + 1))) ≤ textSum (l.take (k + 1)) by
                rw [HM'.out, HS.out]; have h1 := HOS.out; have h2 := HST2.out; omega)
              clear hgrow hown hB hown4 hBQ
              go_wp2_with fail
              go_roundw
              case rel => exact ⟨k + 1, by omega, by go_num, HO.out, hB4, HL1.out, HL2.out⟩
              case measure => simp [intOf]; omega
      · have hkk : ((x.kind : Int) == 1) = false := by simp; omega
        have HO' := Lib.hid (show out' = out ++ [x] by
          rw [← HST.out]; unfold mergeStep
          rw [if_neg (fun h => hk1 h.1)]
          have hw : wordsOnly x = x := by unfold wordsOnly; rw [if_neg hk1]
          split
          · rw [if_neg (fun h => hk1 h.1), hw]
          · rw [hw])
        have hkk2 : ¬ (x.kind : Int) = 1 := by omega
        clear hk1
        obtain ⟨ao2, cap2, hu3, _⟩ := own_slice hown
        subst hu3
        go_wp2_with fail
        go_quiet (fail)
        go_wp2_with (first
          | (at_builtin; refine wpList_append_own _ rfl _ _ 25 rfl w.heap.size 28 i0 (.agg #[.int .i64 0, .int .i64 0, .string ⟨#[]⟩, .string ⟨#[]⟩, .string ⟨#[]⟩]) 5 64 Tryz.underlying25 hi hz0 hz1 hz2 rfl (by decide) _ _ _ rfl ((own_drewN (hown.alloc _) _).alloc _) ⟨wr.heap.size + 1, 0, none⟩ 1 1 [.int .i64 (x.kind : Int), .int .i64 (x.depth : Int), .string ⟨x.text.toArray⟩, (.string ⟨x.url.toArray⟩), (.string ⟨x.title.toArray⟩)] rfl rfl ?c1 ?c2 ?c3 ?c4 ?c5 ?_))
        case c1 => exact cells_new _ _ _ _ (by simp)
        case c2 => intro u hu; simp at hu; rcases hu with rfl | rfl | rfl | rfl | rfl <;> rfl
        case c3 => unfold maxLen; omega
        case c4 => omega
        case c5 => have := hB.size; simp; omega
        intro v' w4 hown4 hgrow _
        have hBQ := below_drewsN (hB.alloc hB.size (.cells #[.int .i64 (x.kind : Int), .int .i64 (x.depth : Int), .string ⟨x.text.toArray⟩, .string ⟨x.url.toArray⟩, .string ⟨x.title.toArray⟩] 28)) nq
        have hB4 := (hBQ.alloc hBQ.size (.cells #[.int .i64 (x.kind : Int), .int .i64 (x.depth : Int), .string ⟨x.text.toArray⟩, (.string ⟨x.url.toArray⟩), (.string ⟨x.title.toArray⟩)] 28)).grown hgrow (by have := hBQ.size; simp at this ⊢; omega) (fun j hj => (hown.lt j hj).1)
        have HO := Lib.hid (show w4.ownsRow w.heap.size 28 5 v' (mergeL (l.take (k + 1))).length (inlCells (mergeL (l.take (k + 1)))) by
          rw [HM'.out, HO'.out, inlCells_append, inlCells_one, List.length_append]; exact hown4)
        have HL1 := Lib.hid (show (mergeL (l.take (k + 1))).length ≤ k + 1 by rw [HM'.out]; omega)
        have HL2 := Lib.hid (show textSum (mergeL (l.take (k + 1))) ≤ textSum (l.take (k + 1)) by
          rw [HM'.out, HS.out]; have h1 := HOS.out; have h2 := HST2.out; omega)
        clear hgrow hown hB hown4 hBQ
        go_wp2_with fail
        go_roundw
        case rel => exact ⟨k + 1, by omega, by go_num, HO.out, hB4, HL1.out, HL2.out⟩
        case measure => simp [intOf]; omega
    · obtain rfl : k = l.length := by omega
      rw [List.take_length] at hown
      have HQ := Lib.hid hown
      clear hown
      go_wp2_with fail
      go_ret
      exact ⟨_, rfl, HQ.out, hB⟩

end Go.Proofs.YtahljcbmckldhaaGreatDoor

/-
  emph.Group's rounds in plain lists: how a pairing turns the pieces; what stays bounded.
-/
namespace Go.Proofs.YtahljcbmckldhaaGreatDoor
open Go.RowKit
set_option linter.unusedVariables false
set_option linter.unusedSimpArgs false

def wtL (l : List Inl) : Nat := (l.map fun x => x.text.length + 1).sum
theorem wtL_append (a b : List Inl) : wtL (a ++ b) = wtL a + wtL b := by unfold wtL; simp
theorem wtL_deeper (l : List Inl) : wtL (deeperL l) = wtL l := by
  unfold wtL deeperL
  rw [List.map_map]
  rfl
theorem wtL_len (l : List Inl) : l.length ≤ wtL l := by
  induction l with
  | nil => simp
  | cons x l ih =>
    rw [show x :: l = [x] ++ l from rfl, wtL_append, List.length_append]
    have : wtL [x] = x.text.length + 1 := by simp [wtL]
    simp; omega
def wtP (q : Piece) : Nat := if q.it.sign = 0 then wtL q.it.l else 2 * q.left
theorem wt_nodes (q : Piece) : wtL q.nodes ≤ wtP q := by
  unfold wtP Piece.nodes
  split
  · exact Nat.le_refl _
  · split
    · simp [wtL, wordsI]; omega
    · simp [wtL]
def totW (p : List Piece) : Nat := (p.map wtP).sum
theorem totW_append (a b : List Piece) : totW (a ++ b) = totW a + totW b := by unfold totW; simp
theorem totW_one (q : Piece) : totW [q] = wtP q := by simp [totW]
theorem signs_append (a b : List Piece) : signsOf (a ++ b) = signsOf a + signsOf b := by unfold signsOf; simp
theorem signs_one (q : Piece) : signsOf [q] = q.left := by simp [signsOf]
theorem wt_flat (p : List Piece) : wtL (p.flatMap Piece.nodes) ≤ totW p := by
  induction p with
  | nil => simp [wtL]
  | cons q p ih =>
    rw [List.flatMap_cons, wtL_append, show q :: p = [q] ++ p from rfl, totW_append, totW_one]
    have := wt_nodes q
    omega

theorem opener_pairs (p : List Piece) (c : Piece) : ∀ (i f : Nat), openerL p c i = some f → f < i ∧ pairs (p.getD f noPiece) c = true
  | 0, f, h => by simp [openerL] at h
  | i + 1, f, h => by
    unfold openerL at h
    split at h
    · rename_i hp
      simp at h
      rw [← h]
      exact ⟨Nat.lt_succ_self _, hp⟩
    · have := opener_pairs p c i f h
      exact ⟨by omega, this.2⟩
theorem pairs_facts {o c : Piece} (h : pairs o c = true) : o.it.sign = c.it.sign ∧ 1 ≤ o.left := by
  unfold pairs at h
  split at h
  · cases h
  · rename_i hn
    simp only [not_or, Classical.not_not] at hn
    exact ⟨hn.1, by omega⟩
theorem not_idle {c : Piece} (h : ¬ idle c = true) : c.it.sign ≠ 0 ∧ c.it.cl = true ∧ c.shut = false ∧ 1 ≤ c.left := by
  unfold idle at h
  simp at h
  refine ⟨h.1.1.1, h.1.1.2, h.1.2, by omega⟩

theorem getD_split {α : Type} (l : List α) (d : α) (k : Nat) (h : k < l.length) : l = l.take k ++ l.getD k d :: l.drop (k + 1) := by
  rw [getD_in l d k h, List.getElem_cons_drop, List.take_append_drop]
/-- The pieces, cut at the two that are paired. -/
theorem pair_split (p : List Piece) (f i : Nat) (hf : f < i) (hi : i < p.length) :
    p = p.take f ++ (p.getD f noPiece :: ((p.take i).drop (f + 1) ++ (p.getD i noPiece :: p.drop (i + 1)))) := by
  have h1 := getD_split p noPiece i hi
  have h2 := getD_split (p.take i) noPiece f (by simp; omega)
  have e1 : (p.take i).getD f noPiece = p.getD f noPiece := by
    simp [List.getD, List.getElem?_take, hf]
  have e2 : (p.take i).take f = p.take f := by rw [List.take_take, Nat.min_eq_left (by omega)]
  rw [e1, e2] at h2
  conv => lhs; rw [h1, h2]
  simp

theorem pairN_le {o c : Piece} (ho : 1 ≤ o.left) (hc : 1 ≤ c.left) : 1 ≤ pairN o c ∧ pairN o c ≤ o.left ∧ pairN o c ≤ c.left := by
  unfold pairN; split <;> omega

/-- What stays bounded in Group. -/
structure GB (D : Nat) (p : List Piece) : Prop where
  len : p.length + signsOf p ≤ D
  wt : totW p ≤ D
  dep : ∀ q ∈ p, ∀ x ∈ q.it.l, x.depth + signsOf p ≤ D
  num : ∀ q ∈ p, q.it.n ≤ D

theorem made_depth (k : Nat) (mid : List Piece) (D : Nat) (h : ∀ q ∈ mid, ∀ x ∈ q.it.l, x.depth ≤ D) : ∀ x ∈ madeL k mid, x.depth ≤ D + 1 := by
  intro x hx
  unfold madeL at hx
  rcases List.mem_cons.1 hx with rfl | hx
  · exact Nat.zero_le _
  · obtain ⟨q, hq, hx⟩ := List.mem_flatMap.1 hx
    obtain ⟨y, hy, rfl⟩ := List.mem_map.1 hx
    show y.depth + 1 ≤ D + 1
    unfold Piece.nodes at hy
    split at hy
    · have := h q hq y hy; omega
    · split at hy
      · simp at hy; rw [hy]; simp [wordsI]
      · simp at hy
theorem made_wt (k : Nat) (mid : List Piece) : wtL (madeL k mid) ≤ 1 + totW mid := by
  rw [made_deeper, show ⟨k, 0, [], [], []⟩ :: deeperL (mid.flatMap Piece.nodes) = [(⟨k, 0, [], [], []⟩ : Inl)] ++ deeperL (mid.flatMap Piece.nodes) from rfl, wtL_append, wtL_deeper]
  have := wt_flat mid
  have h1 : wtL [(⟨k, 0, [], [], []⟩ : Inl)] = 1 := by simp [wtL]
  omega

theorem pair_gb (D : Nat) (A M B : List Piece) (o c : Piece) (k : Nat) (h : GB D (A ++ (o :: (M ++ (c :: B))))) (hs : o.it.sign = c.it.sign) (hs0 : c.it.sign ≠ 0) (ho : 1 ≤ o.left) (hc : 1 ≤ c.left) :
    GB D (A ++ [lessL o (pairN o c), ⟨⟨0, 0, false, false, madeL k M⟩, 0, false⟩, lessL c (pairN o c)] ++ B) ∧
      signsOf (A ++ [lessL o (pairN o c), ⟨⟨0, 0, false, false, madeL k M⟩, 0, false⟩, lessL c (pairN o c)] ++ B) + 2 ≤ signsOf (A ++ (o :: (M ++ (c :: B)))) := by
  obtain ⟨n1, n2, n3⟩ := pairN_le ho hc
  obtain ⟨n, hn⟩ : ∃ n, pairN o c = n := ⟨_, rfl⟩
  rw [hn] at n1 n2 n3 ⊢
  have e1 : A ++ (o :: (M ++ (c :: B))) = A ++ ([o] ++ (M ++ ([c] ++ B))) := rfl
  have e2 : A ++ [lessL o n, ⟨⟨0, 0, false, false, madeL k M⟩, 0, false⟩, lessL c n] ++ B = A ++ ([lessL o n] ++ ([⟨⟨0, 0, false, false, madeL k M⟩, 0, false⟩] ++ ([lessL c n] ++ B))) := by simp
  rw [e1] at h ⊢
  rw [e2]
  have s1 : signsOf (A ++ ([o] ++ (M ++ ([c] ++ B)))) = signsOf A + (o.left + (signsOf M + (c.left + signsOf B))) := by
    simp only [signs_append, signs_one]
  have s2 : signsOf (A ++ ([lessL o n] ++ ([⟨⟨0, 0, false, false, madeL k M⟩, 0, false⟩] ++ ([lessL c n] ++ B)))) = signsOf A + ((o.left - n) + (0 + ((c.left - n) + signsOf B))) := by
    simp only [signs_append, signs_one]; rfl
  have w1 : totW (A ++ ([o] ++ (M ++ ([c] ++ B)))) = totW A + (2 * o.left + (totW M + (2 * c.left + totW B))) := by
    simp only [totW_append, totW_one]
    unfold wtP
    rw [if_neg (by rw [hs]; exact hs0), if_neg hs0]
  have w2 : totW (A ++ ([lessL o n] ++ ([⟨⟨0, 0, false, false, madeL k M⟩, 0, false⟩] ++ ([lessL c n] ++ B)))) = totW A + (2 * (o.left - n) + (wtL (madeL k M) + (2 * (c.left - n) + totW B))) := by
    simp only [totW_append, totW_one]
    unfold wtP lessL
    simp only
    rw [if_neg (by rw [hs]; exact hs0), if_neg hs0, if_pos trivial]
  have hm := made_wt k M
  have h1 := h.len
  have h2 := h.wt
  rw [s1] at h1
  rw [w1] at h2
  simp only [List.length_append, List.length_cons, List.length_nil] at h1
  refine ⟨⟨?_, ?_, ?_, ?_⟩, by rw [s1, s2]; omega⟩
  · rw [s2]
    simp only [List.length_append, List.length_cons, List.length_nil]
    omega
  · rw [w2]; omega
  · intro q hq x hx
    rw [s2]
    have hd := h.dep
    rw [s1] at hd
    simp only [List.mem_append, List.mem_singleton] at hq
    rcases hq with hq | rfl | rfl | rfl | hq
    · have := hd q (by simp [hq]) x hx; omega
    · have := hd o (by simp) x hx; omega
    · have hdd := made_depth k M (D - (signsOf A + (o.left + (signsOf M + (c.left + signsOf B))))) (fun q hq y hy => by have := hd q (by simp [hq]) y hy; omega) x hx
      omega
    · have := hd c (by simp) x hx; omega
    · have := hd q (by simp [hq]) x hx; omega
  · intro q hq
    simp only [List.mem_append, List.mem_singleton] at hq
    rcases hq with hq | rfl | rfl | rfl | hq
    · exact h.num q (by simp [hq])
    · exact h.num o (by simp)
    · exact Nat.zero_le _
    · exact h.num c (by simp)
    · exact h.num q (by simp [hq])

theorem set_gb (D : Nat) (p : List Piece) (i : Nat) (q : Piece) (hi : i < p.length) (hq : q = { (p.getD i noPiece) with shut := true }) (h : GB D p) : GB D (p.set i q) ∧ signsOf (p.set i q) = signsOf p := by
  have hsp := getD_split p noPiece i hi
  have hset : p.set i q = p.take i ++ ([q] ++ p.drop (i + 1)) := by rw [List.set_eq_take_append_cons_drop, if_pos hi]; rfl
  have e : signsOf (p.set i q) = signsOf p := by
    conv => rhs; rw [hsp]
    rw [hset, show p.getD i noPiece :: p.drop (i + 1) = [p.getD i noPiece] ++ p.drop (i + 1) from rfl]
    simp only [signs_append, signs_one]
    rw [hq]
  have e2 : totW (p.set i q) = totW p := by
    conv => rhs; rw [hsp]
    rw [hset, show p.getD i noPiece :: p.drop (i + 1) = [p.getD i noPiece] ++ p.drop (i + 1) from rfl]
    simp only [totW_append, totW_one]
    rw [hq]; rfl
  have hmem : p.getD i noPiece ∈ p := by rw [getD_in p noPiece i hi]; exact List.getElem_mem hi
  refine ⟨⟨by rw [e, List.length_set]; exact h.len, by rw [e2]; exact h.wt, fun r hr x hx => ?_, fun r hr => ?_⟩, e⟩
  · rw [e]
    rcases List.mem_or_eq_of_mem_set hr with hr | rfl
    · exact h.dep r hr x hx
    · rw [hq] at hx; exact h.dep _ hmem x hx
  · rcases List.mem_or_eq_of_mem_set hr with hr | rfl
    · exact h.num r hr
    · rw [hq]; exact h.num (p.getD i noPiece) hmem

theorem totW_mem {p : List Piece} {q : Piece} (h : q ∈ p) : wtP q ≤ totW p := by
  induction p with
  | nil => cases h
  | cons y p ih =>
    rw [show y :: p = [y] ++ p from rfl, totW_append, totW_one]
    rcases List.mem_cons.1 h with rfl | h
    · omega
    · have := ih h; omega
theorem signs_mem {p : List Piece} {q : Piece} (h : q ∈ p) : q.left ≤ signsOf p := by
  induction p with
  | nil => cases h
  | cons y p ih =>
    rw [show y :: p = [y] ++ p from rfl, signs_append, signs_one]
    rcases List.mem_cons.1 h with rfl | h
    · omega
    · have := ih h; omega
theorem totW_take (p : List Piece) (k : Nat) : totW (p.take k) ≤ totW p := by
  have := totW_append (p.take k) (p.drop k)
  rw [List.take_append_drop] at this
  omega
theorem totW_drop (p : List Piece) (k : Nat) : totW (p.drop k) ≤ totW p := by
  have := totW_append (p.take k) (p.drop k)
  rw [List.take_append_drop] at this
  omega
theorem flat_nodes_len (p : List Piece) : (p.flatMap Piece.nodes).length ≤ totW p := Nat.le_trans (wtL_len _) (wt_flat p)
theorem wtL_sum (l : List Inl) : wtL l = l.length + (l.map fun x => x.text.length).sum := by
  induction l with
  | nil => rfl
  | cons x l ih =>
    rw [show x :: l = [x] ++ l from rfl, wtL_append, ih]
    simp [wtL]; omega
theorem madeL_snoc (K : Nat) (mid : List Piece) (q : Piece) : madeL K (mid ++ [q]) = madeL K mid ++ deeperL q.nodes := by
  unfold madeL; simp
theorem madeL_len (K : Nat) (mid : List Piece) : (madeL K mid).length ≤ 1 + totW mid := Nat.le_trans (wtL_len _) (made_wt K mid)
theorem node_depth {D : Nat} {p : List Piece} {q : Piece} (h : GB D p) (hq : q ∈ p) : ∀ x ∈ q.nodes, x.depth ≤ D := by
  intro x hx
  unfold Piece.nodes at hx
  split at hx
  · have := h.dep q hq x hx; omega
  · split at hx
    · simp at hx; rw [hx]; exact Nat.zero_le _
    · simp at hx
theorem node_len {D : Nat} {p : List Piece} {q : Piece} (h : GB D p) (hq : q ∈ p) : q.nodes.length ≤ D := by
  have h1 := Nat.le_trans (wtL_len _) (wt_nodes q)
  have h2 := totW_mem hq
  have h3 := h.wt
  omega

end Go.Proofs.YtahljcbmckldhaaGreatDoor
