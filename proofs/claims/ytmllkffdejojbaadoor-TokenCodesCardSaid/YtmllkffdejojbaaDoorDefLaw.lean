/-
  What define's readers make of plain text: plain facts, no program in sight.
-/
import Derived.Test.YtmllkffdejojbaaDoorLineSpec
import Derived.Test.YtmllkffdejojbaaDoorTgtLaw2
namespace Go.Proofs.YtmllkffdejojbaaDoor
open Go.RowKit
set_option maxRecDepth 100000
set_option linter.unusedVariables false
set_option linter.unusedSimpArgs false

/-! ### one sign -/
theorem index_hit (c : UInt8) : ∀ (a b : List UInt8), c ∉ a → Lib.index (a ++ c :: b) [c] = (a.length : Int)
  | [], b, _ => by simp [Lib.index]
  | x :: a, b, h => by
    have hx : c ≠ x := fun e => h (by rw [e]; exact List.mem_cons_self ..)
    have ih := index_hit c a b (fun e => h (List.mem_cons_of_mem _ e))
    show (if ([c] : List UInt8).isPrefixOf (x :: (a ++ c :: b)) then (0 : Int) else if Lib.index (a ++ c :: b) [c] == -1 then -1 else Lib.index (a ++ c :: b) [c] + 1) = _
    rw [ih, if_neg (by simp [List.isPrefixOf, hx]), if_neg (by simp), List.length_cons]
    omega
theorem index_miss (c : UInt8) : ∀ (a : List UInt8), c ∉ a → Lib.index a [c] = -1
  | [], _ => rfl
  | x :: a, h => by
    have hx : c ≠ x := fun e => h (by rw [e]; exact List.mem_cons_self ..)
    have ih := index_miss c a (fun e => h (List.mem_cons_of_mem _ e))
    show (if ([c] : List UInt8).isPrefixOf (x :: a) then (0 : Int) else if Lib.index a [c] == -1 then -1 else Lib.index a [c] + 1) = _
    rw [ih, if_neg (by simp [List.isPrefixOf, hx])]
    rfl

theorem cut_hit (c : UInt8) (a b : List UInt8) (h : c ∉ a) : cutAt c (a ++ c :: b) = (a, b, true) := by
  unfold cutAt Lib.cut
  rw [index_hit c a b h, if_pos (by omega), show ((a.length : Int)).toNat = a.length by omega, List.take_left' rfl]
  congr 1
  rw [show a ++ c :: b = (a ++ [c]) ++ b by simp, List.drop_left' (by simp)]
theorem cut_miss (c : UInt8) (a : List UInt8) (h : c ∉ a) : cutAt c a = (a, [], false) := by
  unfold cutAt Lib.cut
  rw [index_miss c a h, if_neg (by omega)]
theorem preAt_yes (c : UInt8) (l : List UInt8) : preAt c (c :: l) = (l, true) := by
  unfold preAt Lib.trimPrefix
  rw [pre_one]
  simp
theorem preAt_no (c : UInt8) (l : List UInt8) (h : l.head? ≠ some c) : preAt c l = (l, false) := by
  unfold preAt Lib.trimPrefix
  rw [pre_one]
  simp [h]

theorem Letters.not_mem {l : List UInt8} (h : Letters l) {c : UInt8} (hc : c.toNat < 97) : c ∉ l := fun e => by have := h c e; omega
theorem Letters.cons {c : UInt8} {l : List UInt8} (hc : 97 ≤ c.toNat ∧ c.toNat ≤ 122) (h : Letters l) : Letters (c :: l) := fun b hb => by
  rcases List.mem_cons.1 hb with e | e
  · rw [e]; exact hc
  · exact h b e
theorem Letters.nil : Letters [] := fun b hb => by cases hb
theorem Letters.ascii {l : List UInt8} (h : Letters l) : ∀ b ∈ l, b.toNat < 128 := fun b hb => by have := h b hb; omega

/-! ### names -/
theorem hasBad_letters : ∀ (l : List UInt8) (n : Nat), Letters l → hasBad n l = false
  | [], n, _ => hasBad_nil n
  | c :: l, 0, _ => rfl
  | c :: l, n + 1, h => by
    have hc := h.head
    rw [hasBad, if_neg (by simp), Lib.decodeL_ascii c l (by omega)]
    simp only [List.drop_succ_cons, List.drop_zero]
    rw [hasBad_letters l n h.tail, Bool.or_false]
    simp [badSigns]
    omega
theorem inSps_letter (n : Nat) (h1 : 97 ≤ n) (h2 : n ≤ 122) : inSps (n : Int) spaceSps = false ∧ inSps (n : Int) upSps = false := by
  unfold inSps inSp spaceSps upSps
  constructor <;> (simp; omega)
theorem foldGo_letters : ∀ (l : List UInt8) (n : Nat) (acc : List UInt8), Letters l → l.length ≤ n → foldGo n l false acc = acc ++ l
  | [], n, acc, _, _ => by rw [foldGo_nil]; simp
  | c :: l, 0, acc, _, h => by simp at h
  | c :: l, n + 1, acc, h, hn => by
    have hc := h.head
    obtain ⟨k1, k2⟩ := inSps_letter c.toNat hc.1 hc.2
    rw [foldGo, if_neg (by simp), Lib.decodeL_ascii c l (by omega)]
    simp only [List.drop_succ_cons, List.drop_zero]
    rw [k1, k2]
    simp only [Bool.false_eq_true, if_false, Bool.false_and, List.take_succ_cons, List.take_zero]
    rw [foldGo_letters l n _ h.tail (by simp at hn; omega)]
    simp
theorem fold_letters (l : List UInt8) (h : Letters l) : fold l = l := by unfold fold; rw [foldGo_letters l _ [] h (Nat.le_refl _)]; rfl
theorem name_letters (l : List UInt8) (h : Letters l) (h0 : l ≠ []) (h1 : l.length ≤ 60) : nameL l = (l, true) := by
  unfold nameL
  rw [hasBad_letters l _ h, fold_letters l h, if_neg (by simp), if_neg (by rintro (h | h); exact h0 h; omega)]

/-! ### blanks -/
theorem trim_black {c : UInt8} {l : List UInt8} (h : blanks.contains c = false) : Lib.trimLeftS (c :: l) blanks = c :: l := plain_stop h
theorem letter_no_blank {c : UInt8} (h : 97 ≤ c.toNat) : blanks.contains c = false := by
  simp [blanks]
  exact ⟨ne_of_toNat (by simp; omega), ne_of_toNat (by simp; omega)⟩
theorem behind_blank1 (c : UInt8) (l : List UInt8) (h : blanks.contains c = false) : (behindL (32 :: c :: l)).1 = c :: l := by
  unfold behindL
  rw [plain_skip (by decide), trim_black h]
theorem trimLeft_letters (l : List UInt8) (h : Letters l) : Lib.trimLeftS l blanks = l := by
  cases l with
  | nil => rfl
  | cons c l => exact trim_black (letter_no_blank h.head.1)
theorem plain_letters (l : List UInt8) (h : Letters l) : plainL l = l := by
  unfold plainL
  rw [trimLeft_letters l h]
  unfold Lib.trimRightS
  have : Lib.trimLeftS l.reverse blanks = l.reverse := trimLeft_letters _ (fun b hb => h b (List.mem_reverse.1 hb))
  unfold Lib.trimLeftS at this
  rw [this, List.reverse_reverse]

/-! ### links -/
theorem dest_angle (url l : List UInt8) (hu : Letters url) : dest (60 :: (url ++ 62 :: l)) = (url, url.length + 2, true) := by
  unfold dest
  rw [if_pos (by simp)]
  have hs : scanTo 62 angBad (60 :: (url ++ 62 :: l)).length ((60 :: (url ++ 62 :: l)).drop 1) 1 = some (url.length + 1) := by
    rw [show (60 :: (url ++ 62 :: l)).length = url.length + ((l.length + 1) + 1) by simp; omega, show (60 :: (url ++ 62 :: l)).drop 1 = url ++ 62 :: l from rfl]
    rw [scan_plain 62 angBad url _ _ (62 :: l) (letters_scan hu _ _ (by decide) (fun b hb => by
      unfold angBad
      simp only [Bool.or_eq_false_iff, beq_eq_false_iff_ne]
      exact ⟨ne_of_toNat (by simp; omega), ne_of_toNat (by simp; omega)⟩)), scan_hit _ _ _ _ _ (by decide)]
    congr 1; omega
  rw [angled_some hs]
  rw [List.take_cons (by omega), List.tail_cons, show url.length + 1 - 1 = url.length by omega, List.take_left' rfl, unesc_plain _ hu.plain]

theorem title_quote (q : UInt8) (t r : List UInt8) (hq : IsQuote q) (ht : Letters t) : title (q :: (t ++ endOf q :: r)) = (t, t.length + 2, true) := by
  obtain ⟨f1, f2, f3, f4⟩ := hq.facts
  rw [title_eq q _ hq]
  have hs : scanTo (endOf q) (fun d => d == 40 && endOf q == 41) (t ++ endOf q :: r).length (t ++ endOf q :: r) 1 = some (t.length + 1) := by
    rw [show (t ++ endOf q :: r).length = t.length + (r.length + 1) by simp, scan_plain _ _ t _ _ _ (letters_scan ht _ _ f1 (not_bad _)), scan_hit _ _ _ _ _ f2]
    congr 1; omega
  rw [hs]
  simp only
  rw [List.take_cons (by omega), List.drop_succ_cons, List.drop_zero, show t.length + 1 - 1 = t.length by omega, List.take_left' rfl, unesc_plain _ ht.plain]

/-! ### lines -/
/-- A name between brackets, and a colon: what is behind them decides. -/
theorem line_open (name rest : List UInt8) (h : (93 : UInt8) ∉ name) : lineL (91 :: (name ++ 93 :: 58 :: rest)) = lineOf name (behindL rest).1 := by
  unfold lineL
  rw [preAt_yes]
  simp only
  rw [cut_hit 93 name _ h]
  simp only
  rw [preAt_yes]
  simp
theorem line_head (l : List UInt8) (h : l.head? ≠ some 91) : lineL l = (DefL.none, false) := by
  unfold lineL
  rw [preAt_no _ _ h]
  simp
theorem line_shut (l : List UInt8) (h : (93 : UInt8) ∉ l) : lineL (91 :: l) = (DefL.none, false) := by
  unfold lineL
  rw [preAt_yes]
  simp only
  rw [cut_miss 93 l h]
  simp
theorem line_colon (name rest : List UInt8) (h : (93 : UInt8) ∉ name) (h2 : rest.head? ≠ some 58) : lineL (91 :: (name ++ 93 :: rest)) = (DefL.none, false) := by
  unfold lineL
  rw [preAt_yes]
  simp only
  rw [cut_hit 93 name _ h]
  simp only
  rw [preAt_no _ _ h2]
  simp

theorem lineOf_note (name rest : List UInt8) : lineOf (94 :: name) rest = if plainL rest ≠ [] ∧ (nameL name).2 = true then (⟨(nameL name).1, [], [], plainL rest, true⟩, true) else (DefL.none, false) := by
  unfold lineOf
  rw [preAt_yes]
  simp
theorem lineOf_link (name rest : List UInt8) (h : name.head? ≠ some 94) : lineOf name rest = if (linkL rest).2.2 = true ∧ (nameL name).2 = true then (⟨(nameL name).1, (linkL rest).1, (linkL rest).2.1, [], false⟩, true) else (DefL.none, false) := by
  unfold lineOf
  rw [preAt_no _ _ h]
  simp

theorem Letters.head_ne {l : List UInt8} (h : Letters l) {c : UInt8} (hc : c.toNat < 97) : l.head? ≠ some c := by
  cases l with
  | nil => simp
  | cons x l => simp; exact ne_of_toNat (by have := h.head; omega)

/-! ### DefineBack -/
theorem back_note (name url : List UInt8) (hn : Letters name) (hu : Letters url) (h0 : name ≠ []) (h1 : url ≠ []) (hl : name.length ≤ 30) :
    lineL (91 :: 94 :: (name ++ 93 :: 58 :: 32 :: url)) = (⟨name, [], [], url, true⟩, true) := by
  rw [show 91 :: 94 :: (name ++ 93 :: 58 :: 32 :: url) = 91 :: ((94 :: name) ++ 93 :: 58 :: (32 :: url)) by simp]
  rw [line_open _ _ (by
    intro e
    rcases List.mem_cons.1 e with e | e
    · cases e
    · exact hn.not_mem (by decide) e)]
  obtain ⟨u, us, rfl⟩ : ∃ u us, url = u :: us := by cases url with | nil => exact absurd rfl h1 | cons u us => exact ⟨u, us, rfl⟩
  rw [behind_blank1 _ _ (letter_no_blank hu.head.1), lineOf_note, plain_letters _ hu, name_letters name hn h0 (by omega)]
  simp

theorem link_bare (url : List UInt8) (hu : Letters url) : linkL (60 :: (url ++ [62])) = (url, [], true) := by
  unfold linkL
  rw [dest_angle url [] hu]
  simp only
  rw [show (60 :: (url ++ [62])).drop (url.length + 2) = [] by rw [List.drop_eq_nil_of_le]; simp]
  simp [behindL, Lib.trimLeftS]
theorem link_titled (url t : List UInt8) (hu : Letters url) (ht : Letters t) : linkL (60 :: (url ++ 62 :: 32 :: 39 :: (t ++ [39, 32]))) = (url, t, true) := by
  unfold linkL
  rw [dest_angle url _ hu]
  simp only
  have e1 : (60 :: (url ++ 62 :: 32 :: 39 :: (t ++ [39, 32]))).drop (url.length + 2) = 32 :: 39 :: (t ++ [39, 32]) := by
    rw [show 60 :: (url ++ 62 :: 32 :: 39 :: (t ++ [39, 32])) = (60 :: (url ++ [62])) ++ (32 :: 39 :: (t ++ [39, 32])) by simp, List.drop_left' (by simp)]
  rw [e1]
  have e2 : behindL (32 :: 39 :: (t ++ [39, 32])) = (39 :: (t ++ [39, 32]), true) := by
    unfold behindL
    rw [plain_skip (by decide), trim_black (by decide)]
    simp
  rw [e2]
  simp only
  have e3 : title (39 :: (t ++ [39, 32])) = (t, t.length + 2, true) := title_quote 39 t [32] (Or.inr (Or.inl rfl)) ht
  rw [e3]
  simp only
  have e4 : (39 :: (t ++ [39, 32])).drop (t.length + 2) = [32] := by
    rw [show 39 :: (t ++ [39, 32]) = (39 :: (t ++ [39])) ++ [32] by simp, List.drop_left' (by simp)]
  rw [e4]
  simp [plainL, Lib.trimLeftS, Lib.trimRightS, blanks]

/-- The line that the law writes. -/
def backLine (name url t : List UInt8) : List UInt8 := 91 :: (name ++ 93 :: 58 :: 32 :: 32 :: 60 :: (url ++ 62 :: (if t = [] then [] else 32 :: 39 :: (t ++ [39, 32]))))
theorem behind_blank2 (c : UInt8) (l : List UInt8) (h : blanks.contains c = false) : (behindL (32 :: 32 :: c :: l)).1 = c :: l := by
  unfold behindL
  rw [plain_skip (by decide), plain_skip (by decide), trim_black h]
theorem back_link (name url t : List UInt8) (hn : Letters name) (hu : Letters url) (ht : Letters t) (h0 : name ≠ []) (hl : name.length ≤ 30) :
    lineL (backLine name url t) = (⟨name, url, t, [], false⟩, true) := by
  unfold backLine
  rw [line_open _ _ (hn.not_mem (by decide)), behind_blank2 60 _ (by decide), lineOf_link _ _ (hn.head_ne (by decide)), name_letters name hn h0 (by omega)]
  by_cases h : t = []
  · subst h
    rw [if_pos rfl, link_bare url hu]
    simp
  · rw [if_neg h, link_titled url t hu ht]
    simp

theorem take_none (f : Nat) (l : List UInt8) (out : List DefL) (h : l.head? ≠ some 91) (hx : l ≠ []) : takeL (f + 1) l out = (out, l) := by
  rw [takeL, if_neg hx, line_head, if_neg (by simp)]
  unfold cutAt Lib.cut
  cases l with
  | nil => exact absurd rfl hx
  | cons c l =>
    split
    · intro e
      apply h
      cases hk : (Lib.index (c :: l) [10]).toNat with
      | zero => rw [hk] at e; simp at e
      | succ k => rw [hk] at e; simpa using e
    · exact h
theorem take_one (f : Nat) (l r : List UInt8) (d : DefL) (out : List DefL) (h : (10 : UInt8) ∉ l) (hd : lineL l = (d, true)) : takeL (f + 1) (l ++ 10 :: r) out = takeL f r (out ++ [d]) := by
  rw [takeL, if_neg (by simp), cut_hit 10 l r h]
  simp only
  rw [hd]
  simp

theorem backLine_lf (name url t : List UInt8) (hn : Letters name) (hu : Letters url) (ht : Letters t) : (10 : UInt8) ∉ backLine name url t := by
  unfold backLine
  have a := hn.not_mem (c := 10) (by decide)
  have b := hu.not_mem (c := 10) (by decide)
  have c := ht.not_mem (c := 10) (by decide)
  split <;> simp [a, b, c]

theorem back_take (f : Nat) (name url t : List UInt8) (hn : Letters name) (hu : Letters url) (ht : Letters t) (h0 : name ≠ []) (hl : name.length ≤ 30) :
    takeL (f + 2) (backLine name url t ++ 10 :: [109, 111, 114, 101]) [] = ([⟨name, url, t, [], false⟩], [109, 111, 114, 101]) := by
  rw [take_one (f + 1) _ _ _ _ (backLine_lf name url t hn hu ht) (back_link name url t hn hu ht h0 hl)]
  exact take_none f _ _ (by simp) (by simp)

/-! ### DefineTakes -/
def takeLine (n : List UInt8) (i : Nat) : List UInt8 := 91 :: (n ++ [93, 58, 32, 47, 117, UInt8.ofNat (97 + i)])
theorem link_u (i : Nat) (hi : i < 12) : linkL [47, 117, UInt8.ofNat (97 + i)] = ([47, 117, UInt8.ofNat (97 + i)], [], true) :=
  (by decide +kernel : ∀ i : Fin 12, linkL [47, 117, UInt8.ofNat (97 + i.val)] = ([47, 117, UInt8.ofNat (97 + i.val)], [], true)) ⟨i, hi⟩
theorem takeLine_def (n : List UInt8) (i : Nat) (hn : Letters n) (h0 : n ≠ []) (hl : n.length ≤ 20) (hi : i < 12) : lineL (takeLine n i) = (⟨n, [47, 117, UInt8.ofNat (97 + i)], [], [], false⟩, true) := by
  unfold takeLine
  rw [show n ++ [93, 58, 32, 47, 117, UInt8.ofNat (97 + i)] = n ++ 93 :: 58 :: [32, 47, 117, UInt8.ofNat (97 + i)] by simp]
  rw [line_open _ _ (hn.not_mem (by decide)), behind_blank1 47 _ (by decide), lineOf_link _ _ (hn.head_ne (by decide)), name_letters n hn h0 (by omega), link_u i hi]
  simp
theorem takeLine_lf (n : List UInt8) (i : Nat) (hn : Letters n) (hi : i < 12) : (10 : UInt8) ∉ takeLine n i := by
  unfold takeLine
  have a := hn.not_mem (c := 10) (by decide)
  obtain ⟨x, hx⟩ : ∃ x, UInt8.ofNat (97 + i) = x := ⟨_, rfl⟩
  have b : (10 : UInt8) ≠ x := by
    rw [← hx]
    refine ne_of_toNat ?_
    rw [UInt8.toNat_ofNat']
    have : (10 : UInt8).toNat = 10 := rfl
    omega
  rw [hx]
  simp [a, b]
/-- The text of the law: a line a name, from the i-th on. -/
def takeText : List (List UInt8) → Nat → List UInt8
  | [], _ => []
  | n :: ns, i => takeLine n i ++ 10 :: takeText ns (i + 1)
def takeDefs : List (List UInt8) → Nat → List DefL
  | [], _ => []
  | n :: ns, i => ⟨n, [47, 117, UInt8.ofNat (97 + i)], [], [], false⟩ :: takeDefs ns (i + 1)
theorem takes_all : ∀ (ns : List (List UInt8)) (i f : Nat) (rest : List UInt8) (out : List DefL), (∀ n ∈ ns, Letters n ∧ n ≠ [] ∧ n.length ≤ 20) → i + ns.length ≤ 12 →
    takeL (ns.length + (f + 1)) (takeText ns i ++ 120 :: rest) out = (out ++ takeDefs ns i, 120 :: rest)
  | [], i, f, rest, out, _, _ => by
    simp only [takeText, takeDefs, List.nil_append, List.append_nil, List.length_nil, Nat.zero_add]
    exact take_none f _ _ (by simp) (by simp)
  | n :: ns, i, f, rest, out, h, hi => by
    obtain ⟨a, b, c⟩ := h n (List.mem_cons_self ..)
    have hi' : i < 12 := by simp at hi; omega
    rw [show (n :: ns).length + (f + 1) = (ns.length + (f + 1)) + 1 by simp; omega]
    simp only [takeText, takeDefs]
    rw [show takeLine n i ++ 10 :: takeText ns (i + 1) ++ 120 :: rest = takeLine n i ++ 10 :: (takeText ns (i + 1) ++ 120 :: rest) by simp]
    rw [take_one _ _ _ _ _ (takeLine_lf n i a hi') (takeLine_def n i a b c hi')]
    rw [takes_all ns (i + 1) f rest _ (fun m hm => h m (List.mem_cons_of_mem _ hm)) (by simp at hi; omega)]
    simp
theorem takeDefs_length : ∀ (ns : List (List UInt8)) (i : Nat), (takeDefs ns i).length = ns.length
  | [], _ => rfl
  | n :: ns, i => by simp [takeDefs, takeDefs_length ns]
theorem takeDefs_at : ∀ (ns : List (List UInt8)) (i j : Nat), j < ns.length → (takeDefs ns i)[j]? = some ⟨ns.getD j [], [47, 117, UInt8.ofNat (97 + (i + j))], [], [], false⟩
  | [], _, j, h => by simp at h
  | n :: ns, i, 0, h => by simp [takeDefs]
  | n :: ns, i, j + 1, h => by
    simp only [takeDefs, List.getElem?_cons_succ]
    rw [takeDefs_at ns (i + 1) j (by simpa using h)]
    simp only [List.getD_cons_succ]
    rw [show i + 1 + j = i + (j + 1) by omega]

/-! ### DefineNone -/
/-- The lines of the law that define nothing. -/
def badLine (k : Nat) (m : List UInt8) : List UInt8 :=
  match k with
  | 0 => 120 :: m
  | 1 => 91 :: 120 :: m
  | 2 => 91 :: 120 :: (m ++ [93])
  | 3 => 91 :: 120 :: (m ++ [93, 32, 58, 32, 47, 117])
  | 4 => [91, 93, 58, 32, 47, 117]
  | 5 => [91, 32, 93, 58, 32, 47, 117]
  | 6 => [91, 94, 93, 58, 32, 116]
  | 7 => 91 :: 94 :: 120 :: (m ++ [93, 58, 32])
  | 8 => 91 :: 120 :: (m ++ [93, 58, 32])
  | 9 => 91 :: 120 :: (m ++ [93, 58, 32, 47, 117, 32, 39, 116])
  | 10 => 91 :: 120 :: (m ++ [93, 58, 32, 47, 117, 32, 39, 116, 39, 32, 122])
  | 11 => [32, 91, 120, 93, 58, 32, 47, 117]
  | _ => 91 :: 120 :: (m ++ [93, 58, 32, 47, 117, 32, 122])

theorem link_8 : linkL (behindL [32]).1 = ([], [], false) := by decide +kernel
theorem link_9 : linkL (behindL [32, 47, 117, 32, 39, 116]).1 = ([], [], false) := by decide +kernel
theorem link_10 : linkL (behindL [32, 47, 117, 32, 39, 116, 39, 32, 122]).1 = ([], [], false) := by decide +kernel
theorem link_12 : linkL (behindL [32, 47, 117, 32, 122]).1 = ([], [], false) := by decide +kernel
theorem bad_4 : lineL [91, 93, 58, 32, 47, 117] = (DefL.none, false) := by decide +kernel
theorem bad_5 : lineL [91, 32, 93, 58, 32, 47, 117] = (DefL.none, false) := by decide +kernel
theorem bad_6 : lineL [91, 94, 93, 58, 32, 116] = (DefL.none, false) := by decide +kernel

theorem bad_link (m tl : List UInt8) (hm : Letters m) (h : linkL (behindL tl).1 = ([], [], false)) : lineL (91 :: 120 :: (m ++ 93 :: 58 :: tl)) = (DefL.none, false) := by
  have hx : Letters (120 :: m) := hm.cons (by decide)
  rw [show 91 :: 120 :: (m ++ 93 :: 58 :: tl) = 91 :: ((120 :: m) ++ 93 :: 58 :: tl) by simp, line_open _ _ (hx.not_mem (by decide)), lineOf_link _ _ (hx.head_ne (by decide)), h]
  simp

theorem bad_none (k : Nat) (m : List UInt8) (hm : Letters m) (hk : k < 13) : lineL (badLine k m) = (DefL.none, false) := by
  have hx : Letters (120 :: m) := hm.cons (by decide)
  have : k = 0 ∨ k = 1 ∨ k = 2 ∨ k = 3 ∨ k = 4 ∨ k = 5 ∨ k = 6 ∨ k = 7 ∨ k = 8 ∨ k = 9 ∨ k = 10 ∨ k = 11 ∨ k = 12 := by omega
  rcases this with rfl | rfl | rfl | rfl | rfl | rfl | rfl | rfl | rfl | rfl | rfl | rfl | rfl
  · exact line_head _ (by simp [badLine])
  · exact line_shut _ (hx.not_mem (by decide))
  · exact line_colon (120 :: m) [] (hx.not_mem (by decide)) (by simp)
  · exact line_colon (120 :: m) [32, 58, 32, 47, 117] (hx.not_mem (by decide)) (by simp)
  · exact bad_4
  · exact bad_5
  · exact bad_6
  · show lineL (91 :: 94 :: 120 :: (m ++ [93, 58, 32])) = _
    rw [show 91 :: 94 :: 120 :: (m ++ [93, 58, 32]) = 91 :: ((94 :: 120 :: m) ++ 93 :: 58 :: [32]) by simp, line_open _ _ (by
      intro e
      rcases List.mem_cons.1 e with e | e
      · cases e
      · exact hx.not_mem (by decide) e), lineOf_note]
    rw [if_neg (by rintro ⟨h, _⟩; exact h (by decide))]
  · exact bad_link m [32] hm link_8
  · exact bad_link m [32, 47, 117, 32, 39, 116] hm link_9
  · exact bad_link m [32, 47, 117, 32, 39, 116, 39, 32, 122] hm link_10
  · exact line_head _ (by simp [badLine])
  · exact bad_link m [32, 47, 117, 32, 122] hm link_12

end Go.Proofs.YtmllkffdejojbaaDoor
