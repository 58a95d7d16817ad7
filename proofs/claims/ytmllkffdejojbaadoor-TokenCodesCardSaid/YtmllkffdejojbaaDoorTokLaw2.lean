/-
  What token's readers make of entities, of tags, of targets between angles, of code. Plain facts, no program in sight.
-/
import Derived.Test.YtmllkffdejojbaaDoorTokLaw
import Derived.Test.YtmllkffdejojbaaDoorTokTag
import Derived.Test.YtmllkffdejojbaaDoorAt
namespace Go.Proofs.YtmllkffdejojbaaDoor
open Go.RowKit
set_option maxRecDepth 100000
set_option linter.unusedVariables false
set_option linter.unusedSimpArgs false

theorem letters_take {l : List UInt8} {k : Nat} {c : UInt8} (h : Letters (l.take k)) (hk : l[k]? = some c) (hc : 97 ≤ c.toNat ∧ c.toNat ≤ 122) : Letters (l.take (k + 1)) := by
  obtain ⟨hlt, he⟩ := List.getElem?_eq_some_iff.1 hk
  rw [List.take_succ_eq_append_getElem hlt, he]
  refine h.append (fun b hb => ?_)
  rw [List.mem_singleton.1 hb]
  exact hc

/-! ### TokenEntities -/
theorem ent_cut (name more : List UInt8) (h : Letters name) : entAt (38 :: (name ++ 59 :: more)) = if (named name).2 = true then ((named name).1, name.length + 2) else ([], 0) := by
  have h1 : (name ++ 59 :: more).head? ≠ some 35 := by
    cases name with
    | nil => simp
    | cons c l => simp; exact ne_of_toNat (by have := h.head; simp; omega)
  have hc : Lib.cut (name ++ 59 :: more) [59] = (name, more, true) := cut_hit 59 name more (h.not_mem (by decide))
  rw [entAt_amp _ h1, hc]
  simp only
  rfl
theorem next_entity (name more : List UInt8) (h : Letters name) (hn : (named name).2 = true) : nextL (38 :: (name ++ 59 :: more)) = (.word (named name).1, name.length + 2) := by
  have hb : beginsL (38 :: (name ++ 59 :: more)) = some (.word (named name).1, name.length + 2) := by
    rw [beginsL, if_neg (by decide), if_neg (by decide), if_pos rfl, ent_cut name more h, if_pos hn, if_pos (by simp)]
  unfold nextL
  rw [hb]
theorem next_noentity (name more : List UInt8) (h : Letters name) (hm : Letters more) (hn : (named name).2 = false) : nextL (38 :: (name ++ 59 :: more)) = (.word (38 :: (name ++ 59 :: more)), name.length + more.length + 2) := by
  have hb : beginsL (38 :: (name ++ 59 :: more)) = none := by
    rw [beginsL, if_neg (by decide), if_neg (by decide), if_pos rfl, ent_cut name more h, if_neg (by rw [hn]; simp)]
  rw [next_none _ hb, plain_all 38 _ (by
    intro b hb
    rcases List.mem_append.1 hb with e | e
    · exact letter_plain (h b e)
    · rcases List.mem_cons.1 e with e | e
      · rw [e]; decide
      · exact letter_plain (hm b e))]
  rw [List.take_length]
  congr 1
  simp; omega

/-! ### tags -/
theorem lett_letters : AllB fun c => 97 ≤ c.toNat ∧ c.toNat ≤ 122 → lettersL.contains c = true := by unfold AllB; decide +kernel
theorem lett_auto : AllB fun c => 97 ≤ c.toNat ∧ c.toNat ≤ 122 → autoSet.contains c = true := by unfold AllB; decide +kernel
theorem lett_mail : AllB fun c => 97 ≤ c.toNat ∧ c.toNat ≤ 122 → mailSet.contains c = true := by unfold AllB; decide +kernel
theorem lett_host : AllB fun c => 97 ≤ c.toNat ∧ c.toNat ≤ 122 → hostSet.contains c = true := by unfold AllB; decide +kernel
theorem lett_name : AllB fun c => 97 ≤ c.toNat ∧ c.toNat ≤ 122 → nameSet.contains c = true := by unfold AllB; decide +kernel

theorem tagEnd_none : ∀ (r : List UInt8) (i : Nat), (∀ b ∈ r, b ≠ 62) → tagEnd r i = none
  | [], _, _ => rfl
  | c :: r, i, h => by
    rw [tagEnd, if_neg (h c (List.mem_cons_self ..))]
    split
    · rfl
    · exact tagEnd_none r (i + 1) (fun b hb => h b (List.mem_cons_of_mem _ hb))
theorem tagEnd_hit : ∀ (r x : List UInt8) (i : Nat), (∀ b ∈ r, b ≠ 60 ∧ b ≠ 62 ∧ b ≠ 0) → tagEnd (r ++ 62 :: x) i = some (i + r.length)
  | [], x, i, _ => by rw [List.nil_append, tagEnd, if_pos rfl]; rfl
  | c :: r, x, i, h => by
    obtain ⟨h1, h2, h3⟩ := h c (List.mem_cons_self ..)
    rw [List.cons_append, tagEnd, if_neg h2, if_neg (by rintro (e | e); exact h1 e; exact h3 e), tagEnd_hit r x (i + 1) (fun b hb => h b (List.mem_cons_of_mem _ hb)), List.length_cons]
    congr 1; omega

/-- A sign's beginning: an angle, a slash or none, a name of letters, and what stands behind. -/
def tagHead (e : Bool) (name : List UInt8) : List UInt8 := if e then 60 :: 47 :: name else 60 :: name
theorem tagHead_len (e : Bool) (name : List UInt8) : (tagHead e name).length = name.length + (if e then 2 else 1) := by
  unfold tagHead; cases e <;> simp

theorem tag_parts (e : Bool) (name : List UInt8) (d : UInt8) (r : List UInt8) (hn : Letters name) (h0 : name ≠ []) (hd1 : lettersL.contains d = false) (hd2 : nameSet.contains d = false) :
    tagL (tagHead e name ++ d :: r) = (if d ≠ 62 ∧ d ≠ 32 ∧ d ≠ 10 ∧ d ≠ 47 then none
      else match tagEnd (d :: r) (tagHead e name).length with
        | some i => some (.tag ((tagHead e name ++ d :: r).take (i + 1)), i + 1)
        | none => none) := by
  have key : ∀ a, (tagHead e name ++ d :: r).drop a = name ++ d :: r → a + name.length = (tagHead e name).length → tagAt (tagHead e name ++ d :: r) a = (if d ≠ 62 ∧ d ≠ 32 ∧ d ≠ 10 ∧ d ≠ 47 then none
      else match tagEnd (d :: r) (tagHead e name).length with
        | some i => some (.tag ((tagHead e name ++ d :: r).take (i + 1)), i + 1)
        | none => none) := by
    intro a ha hl
    have h1 : amongL (name ++ d :: r) lettersL = name.length := among_to _ _ _ _ (letter_in lett_letters hn) hd1
    have h2 : amongL (name ++ d :: r) (lettersL ++ digitsL ++ [45]) = name.length := among_to nameSet _ _ _ (letter_in lett_name hn) hd2
    have h3 : (tagHead e name ++ d :: r).drop (a + name.length) = d :: r := by
      rw [← List.drop_drop, ha, List.drop_left' rfl]
    unfold tagAt
    rw [ha, h1, h2, if_neg (by intro e; exact h0 (List.eq_nil_of_length_eq_zero e)), h3, hl]
    rfl
  unfold tagL
  cases e
  · have hne : ((tagHead false name ++ d :: r).drop 1).head? ≠ some 47 := by
      unfold tagHead
      cases name with
      | nil => exact absurd rfl h0
      | cons c l => simp; exact ne_of_toNat (by have := hn.head; simp; omega)
    rw [if_neg hne]
    exact key 1 (by simp [tagHead]) (by rw [tagHead_len]; simp; omega)
  · have hyes : ((tagHead true name ++ d :: r).drop 1).head? = some 47 := by simp [tagHead]
    rw [if_pos hyes]
    exact key 2 (by simp [tagHead]) (by rw [tagHead_len]; simp; omega)

/-- Behind a name of letters stands what no scheme and no address has. -/
theorem auto_not (e : Bool) (name : List UInt8) (d : UInt8) (r : List UInt8) (hn : Letters name) (h0 : name ≠ []) (hd : autoSet.contains d = false) (hd2 : d ≠ 58) : autoL (tagHead e name ++ d :: r) = none := by
  cases e
  · obtain ⟨c, l, rfl⟩ : ∃ c l, name = c :: l := by cases name with | nil => exact absurd rfl h0 | cons c l => exact ⟨c, l, rfl⟩
    have h2 : (tagHead false (c :: l) ++ d :: r).drop 2 = l ++ d :: r := by simp [tagHead]
    have ht : amongL ((tagHead false (c :: l) ++ d :: r).drop 2) autoSet = l.length := by rw [h2]; exact among_to _ _ _ _ (letter_in lett_auto hn.tail) hd
    refine auto_no _ l.length ht (Or.inr (Or.inr (Or.inr ?_)))
    rw [← List.drop_drop, h2, List.drop_left' rfl]
    simpa using hd2
  · refine auto_no _ _ rfl (Or.inl ?_)
    have : (tagHead true name ++ d :: r).drop 1 = 47 :: (name ++ d :: r) := by simp [tagHead]
    rw [this, among_stop _ _ _ (by decide)]
theorem mail_not (e : Bool) (name : List UInt8) (d : UInt8) (r : List UInt8) (hn : Letters name) (hd : mailSet.contains d = false) (hd2 : d ≠ 64) : mailL (tagHead e name ++ d :: r) = none := by
  cases e
  · have h1 : (tagHead false name ++ d :: r).drop 1 = name ++ d :: r := by simp [tagHead]
    have ht : amongL ((tagHead false name ++ d :: r).drop 1) mailSet = name.length := by rw [h1]; exact among_to _ _ _ _ (letter_in lett_mail hn) hd
    refine mail_no _ name.length _ ht rfl (Or.inr (Or.inl ?_))
    rw [← List.drop_drop, h1, List.drop_left' rfl]
    simpa using hd2
  · refine mail_no _ 0 _ ?_ rfl (Or.inl rfl)
    have : (tagHead true name ++ d :: r).drop 1 = 47 :: (name ++ d :: r) := by simp [tagHead]
    rw [this, among_stop _ _ _ (by decide)]

theorem next_angle (e : Bool) (name x : List UInt8) (h : autoL (tagHead e name ++ x) = none) (h2 : mailL (tagHead e name ++ x) = none) :
    beginsL (tagHead e name ++ x) = tagL (tagHead e name ++ x) := by
  have hb : beginsL (tagHead e name ++ x) = angleL (tagHead e name ++ x) := by
    unfold tagHead
    cases e <;> rfl
  rw [hb]
  unfold angleL
  rw [h, h2]

/-- A sign with something behind its name. -/
theorem next_tag (e : Bool) (name rest x : List UInt8) (hn : Letters name) (h0 : name ≠ []) (hr : ∀ b ∈ rest, b ≠ 60 ∧ b ≠ 62 ∧ b ≠ 0) :
    nextL (tagHead e name ++ 32 :: (rest ++ 62 :: x)) = (.tag (tagHead e name ++ 32 :: (rest ++ [62])), (tagHead e name).length + rest.length + 2) := by
  have ht := tag_parts e name 32 (rest ++ 62 :: x) hn h0 (by decide) (by decide)
  rw [if_neg (by decide), show (32 : UInt8) :: (rest ++ 62 :: x) = (32 :: rest) ++ 62 :: x from rfl, tagEnd_hit (32 :: rest) x _ (by
    intro b hb
    rcases List.mem_cons.1 hb with e | e
    · rw [e]; decide
    · exact hr b e)] at ht
  simp only at ht
  have hb := next_angle e name (32 :: (rest ++ 62 :: x)) (auto_not e name 32 _ hn h0 (by decide) (by decide)) (mail_not e name 32 _ hn (by decide) (by decide))
  unfold nextL
  rw [hb, show (32 : UInt8) :: (rest ++ 62 :: x) = (32 :: rest) ++ 62 :: x from rfl, ht]
  simp only [List.length_cons]
  have : (tagHead e name ++ ((32 :: rest) ++ 62 :: x)).take ((tagHead e name).length + (rest.length + 1) + 1) = tagHead e name ++ 32 :: (rest ++ [62]) := by
    rw [show tagHead e name ++ ((32 :: rest) ++ 62 :: x) = (tagHead e name ++ 32 :: (rest ++ [62])) ++ x by simp]
    exact List.take_left' (by simp; omega)
  rw [this]
  congr 1
theorem next_tag0 (e : Bool) (name : List UInt8) (hn : Letters name) (h0 : name ≠ []) : nextL (tagHead e name ++ [62]) = (.tag (tagHead e name ++ [62]), (tagHead e name).length + 1) := by
  have ht := tag_parts e name 62 [] hn h0 (by decide) (by decide)
  rw [if_neg (by decide), tagEnd, if_pos rfl] at ht
  simp only at ht
  have hb := next_angle e name [62] (auto_not e name 62 _ hn h0 (by decide) (by decide)) (mail_not e name 62 _ hn (by decide) (by decide))
  unfold nextL
  rw [hb, ht]
  simp only
  rw [List.take_of_length_le (by simp)]
theorem next_notag (e : Bool) (name rest : List UInt8) (hn : Letters name) (h0 : name ≠ []) (hr : ∀ b ∈ rest, b ≠ 60 ∧ b ≠ 62 ∧ b ≠ 0) : ∃ l n, nextL (tagHead e name ++ 32 :: rest) = (.word l, n) := by
  have ht := tag_parts e name 32 rest hn h0 (by decide) (by decide)
  rw [if_neg (by decide), tagEnd_none (32 :: rest) _ (by
    intro b hb
    rcases List.mem_cons.1 hb with e | e
    · rw [e]; decide
    · exact (hr b e).2.1)] at ht
  simp only at ht
  have hb := next_angle e name (32 :: rest) (auto_not e name 32 _ hn h0 (by decide) (by decide)) (mail_not e name 32 _ hn (by decide) (by decide))
  rw [ht] at hb
  exact ⟨_, _, next_none _ hb⟩

/-! ### TokenAutos -/
theorem autoEnd_hit : ∀ (r x : List UInt8) (i : Nat), (∀ b ∈ r, ¬ (b ≤ 32) ∧ b ≠ 60 ∧ b ≠ 127 ∧ b ≠ 62) → autoEnd (r ++ 62 :: x) i = some (i + r.length)
  | [], x, i, _ => by rw [List.nil_append, autoEnd, if_pos rfl]; rfl
  | c :: r, x, i, h => by
    obtain ⟨h1, h2, h3, h4⟩ := h c (List.mem_cons_self ..)
    rw [List.cons_append, autoEnd, if_neg h4, if_neg (by rintro (e | e | e); exact h1 e; exact h2 e; exact h3 e), autoEnd_hit r x (i + 1) (fun b hb => h b (List.mem_cons_of_mem _ hb)), List.length_cons]
    congr 1; omega
theorem autoEnd_blank : ∀ (r x : List UInt8) (i : Nat), (∀ b ∈ r, ¬ (b ≤ 32) ∧ b ≠ 60 ∧ b ≠ 127 ∧ b ≠ 62) → autoEnd (r ++ 32 :: x) i = none
  | [], x, i, _ => by rw [List.nil_append, autoEnd, if_neg (by decide), if_pos (by decide)]
  | c :: r, x, i, h => by
    obtain ⟨h1, h2, h3, h4⟩ := h c (List.mem_cons_self ..)
    rw [List.cons_append, autoEnd, if_neg h4, if_neg (by rintro (e | e | e); exact h1 e; exact h2 e; exact h3 e)]
    exact autoEnd_blank r x (i + 1) (fun b hb => h b (List.mem_cons_of_mem _ hb))
theorem letter_auto {c : UInt8} (h : 97 ≤ c.toNat ∧ c.toNat ≤ 122) : ¬ (c ≤ 32) ∧ c ≠ 60 ∧ c ≠ 127 ∧ c ≠ 62 :=
  allB (p := fun c => 97 ≤ c.toNat ∧ c.toNat ≤ 122 → ¬ (c ≤ 32) ∧ c ≠ 60 ∧ c ≠ 127 ∧ c ≠ 62) (by unfold AllB; decide +kernel) c h

/-- What stands between the angles, and the url that it is. -/
def autoText (mail : Bool) (a b : List UInt8) : List UInt8 := a ++ (if mail then 64 else 58) :: b
def autoUrl (mail : Bool) (a b : List UInt8) : List UInt8 := if mail then mailto ++ autoText mail a b else autoText mail a b

theorem auto_shape (mail : Bool) (a b x : List UInt8) : 60 :: (autoText mail a b ++ x) = tagHead false a ++ (if mail then 64 else 58) :: (b ++ x) := by
  unfold autoText tagHead; simp

theorem begins_angle (x : List UInt8) : beginsL (60 :: x) = angleL (60 :: x) := rfl

theorem next_auto (mail : Bool) (a b x : List UInt8) (ha : Letters a) (hb : Letters b) (h2 : 2 ≤ a.length) (h20 : a.length ≤ 20) (hb0 : b ≠ []) :
    nextL (60 :: (autoText mail a b ++ 62 :: x)) = (.auto (autoUrl mail a b) (autoText mail a b), (autoText mail a b).length + 2) := by
  obtain ⟨c, l, rfl⟩ : ∃ c l, a = c :: l := by cases a with | nil => simp at h2 | cons c l => exact ⟨c, l, rfl⟩
  have hl : (autoText mail (c :: l) b).length = l.length + 1 + (1 + b.length) := by unfold autoText; simp; omega
  cases mail
  · have ht : ∀ y, ((60 : UInt8) :: (autoText false (c :: l) b ++ y)).drop 2 = l ++ 58 :: (b ++ y) := by intro y; unfold autoText; simp
    have h1 : ((60 : UInt8) :: (autoText false (c :: l) b ++ 62 :: x)).drop 1 = (c :: l) ++ 58 :: (b ++ 62 :: x) := by unfold autoText; simp
    have hau : autoL (60 :: (autoText false (c :: l) b ++ 62 :: x)) = some (.auto (autoText false (c :: l) b) (autoText false (c :: l) b), (autoText false (c :: l) b).length + 2) := by
      have hk : amongL ((60 :: (autoText false (c :: l) b ++ 62 :: x)).drop 2) autoSet = l.length := by
        rw [ht]; exact among_to _ _ _ _ (letter_in lett_auto ha.tail) (by decide)
      have hd : (60 :: (autoText false (c :: l) b ++ 62 :: x)).drop (2 + l.length) = 58 :: (b ++ 62 :: x) := by
        rw [← List.drop_drop, ht, List.drop_left' rfl]
      rw [auto_eq _ l.length (by rw [h1, among_to _ _ _ _ (letter_in lett_letters ha) (by decide)]; simp) hk (by simp at h2; omega) (by simp at h20; omega) (by rw [hd]; rfl), hd]
      rw [show (58 : UInt8) :: (b ++ 62 :: x) = (58 :: b) ++ 62 :: x from rfl, autoEnd_hit (58 :: b) x _ (by
        intro y hy
        rcases List.mem_cons.1 hy with e | e
        · rw [e]; decide
        · exact letter_auto (hb y e))]
      simp only [List.length_cons]
      have htk : ((60 :: (autoText false (c :: l) b ++ 62 :: x)).take (2 + l.length + (b.length + 1))).drop 1 = autoText false (c :: l) b := by
        rw [show 2 + l.length + (b.length + 1) = ((autoText false (c :: l) b).length) + 1 by rw [hl]; omega, List.take_succ_cons, List.drop_succ_cons, List.drop_zero, List.take_left' rfl]
      rw [htk]
      congr 2
      rw [hl]; omega
    unfold nextL
    rw [begins_angle]
    unfold angleL
    rw [hau]
    rfl
  · have h1 : ((60 : UInt8) :: (autoText true (c :: l) b ++ 62 :: x)).drop 1 = (c :: l) ++ 64 :: (b ++ 62 :: x) := by unfold autoText; simp
    have hn : amongL ((60 :: (autoText true (c :: l) b ++ 62 :: x)).drop 1) mailSet = (c :: l).length := by rw [h1]; exact among_to _ _ _ _ (letter_in lett_mail ha) (by decide)
    have hd1 : (60 :: (autoText true (c :: l) b ++ 62 :: x)).drop (1 + (c :: l).length) = 64 :: (b ++ 62 :: x) := by rw [← List.drop_drop, h1, List.drop_left' rfl]
    have hd2 : (60 :: (autoText true (c :: l) b ++ 62 :: x)).drop (2 + (c :: l).length) = b ++ 62 :: x := by
      rw [show 2 + (c :: l).length = (1 + (c :: l).length) + 1 by omega, ← List.drop_drop, hd1]; rfl
    have hm : amongL ((60 :: (autoText true (c :: l) b ++ 62 :: x)).drop (2 + (c :: l).length)) hostSet = b.length := by rw [hd2]; exact among_to _ _ _ _ (letter_in lett_host hb) (by decide)
    have hd3 : (60 :: (autoText true (c :: l) b ++ 62 :: x)).drop (2 + (c :: l).length + b.length) = 62 :: x := by rw [← List.drop_drop, hd2, List.drop_left' rfl]
    have hna : autoL (60 :: (autoText true (c :: l) b ++ 62 :: x)) = none := by
      rw [auto_shape]; exact auto_not false (c :: l) 64 _ ha (by simp) (by decide) (by decide)
    have hml := mail_yes _ _ _ hn hm (by simp) (by rw [hd1]; rfl) (by intro e; exact hb0 (List.eq_nil_of_length_eq_zero e)) (by rw [hd3]; rfl)
    unfold nextL
    rw [begins_angle]
    unfold angleL
    rw [hna, hml]
    simp only
    have htk : ((60 :: (autoText true (c :: l) b ++ 62 :: x)).take (2 + (c :: l).length + b.length)).drop 1 = autoText true (c :: l) b := by
      rw [show 2 + (c :: l).length + b.length = ((autoText true (c :: l) b).length) + 1 by rw [hl]; simp; omega, List.take_succ_cons, List.drop_succ_cons, List.drop_zero, List.take_left' rfl]
    rw [htk]
    congr 1
    rw [hl]; simp; omega

theorem next_noauto (mail : Bool) (a b : List UInt8) (ha : Letters a) (hb : Letters b) (h2 : 2 ≤ a.length) (h20 : a.length ≤ 20) (hb0 : b ≠ []) :
    ∃ l n, nextL (60 :: (autoText mail a b ++ [32, 120, 62])) = (.word l, n) := by
  have ha0 : a ≠ [] := by intro e; rw [e] at h2; simp at h2
  have hshape := auto_shape mail a b [32, 120, 62]
  obtain ⟨c, l, hcl⟩ : ∃ c l, a = c :: l := by cases a with | nil => simp at h2 | cons c l => exact ⟨c, l, rfl⟩
  have htag : tagL (60 :: (autoText mail a b ++ [32, 120, 62])) = none := by
    rw [hshape]
    cases mail
    · rw [show (if false = true then (64 : UInt8) else 58) = 58 from rfl, tag_parts false a 58 _ ha ha0 (by decide) (by decide), if_pos (by decide)]
    · rw [show (if true = true then (64 : UInt8) else 58) = 64 from rfl, tag_parts false a 64 _ ha ha0 (by decide) (by decide), if_pos (by decide)]
  have hmail : mailL (60 :: (autoText mail a b ++ [32, 120, 62])) = none := by
    cases mail
    · rw [hshape]; exact mail_not false a 58 _ ha (by decide) (by decide)
    · have h1 : ((60 : UInt8) :: (autoText true a b ++ [32, 120, 62])).drop 1 = a ++ 64 :: (b ++ [32, 120, 62]) := by unfold autoText; simp
      have hn : amongL ((60 :: (autoText true a b ++ [32, 120, 62])).drop 1) mailSet = a.length := by rw [h1]; exact among_to _ _ _ _ (letter_in lett_mail ha) (by decide)
      have hd2 : (60 :: (autoText true a b ++ [32, 120, 62])).drop (2 + a.length) = b ++ [32, 120, 62] := by
        rw [show 2 + a.length = 1 + (a.length + 1) by omega, ← List.drop_drop, h1, ← List.drop_drop, List.drop_left' rfl]; rfl
      have hm : amongL ((60 :: (autoText true a b ++ [32, 120, 62])).drop (2 + a.length)) hostSet = b.length := by rw [hd2]; exact among_to _ _ _ _ (letter_in lett_host hb) (by decide)
      refine mail_no _ a.length b.length hn hm (Or.inr (Or.inr (Or.inr ?_)))
      rw [← List.drop_drop, hd2, List.drop_left' rfl]
      simp
  have hauto : autoL (60 :: (autoText mail a b ++ [32, 120, 62])) = none := by
    cases mail
    · subst hcl
      have ht : ((60 : UInt8) :: (autoText false (c :: l) b ++ [32, 120, 62])).drop 2 = l ++ 58 :: (b ++ [32, 120, 62]) := by unfold autoText; simp
      have h1 : ((60 : UInt8) :: (autoText false (c :: l) b ++ [32, 120, 62])).drop 1 = (c :: l) ++ 58 :: (b ++ [32, 120, 62]) := by unfold autoText; simp
      have hk : amongL ((60 :: (autoText false (c :: l) b ++ [32, 120, 62])).drop 2) autoSet = l.length := by
        rw [ht]; exact among_to _ _ _ _ (letter_in lett_auto ha.tail) (by decide)
      have hd : (60 :: (autoText false (c :: l) b ++ [32, 120, 62])).drop (2 + l.length) = 58 :: (b ++ [32, 120, 62]) := by
        rw [← List.drop_drop, ht, List.drop_left' rfl]
      rw [auto_eq _ l.length (by rw [h1, among_to _ _ _ _ (letter_in lett_letters ha) (by decide)]; simp) hk (by simp at h2; omega) (by simp at h20; omega) (by rw [hd]; rfl), hd]
      rw [show (58 : UInt8) :: (b ++ [32, 120, 62]) = (58 :: b) ++ 32 :: [120, 62] from rfl, autoEnd_blank (58 :: b) [120, 62] _ (by
        intro y hy
        rcases List.mem_cons.1 hy with e | e
        · rw [e]; decide
        · exact letter_auto (hb y e))]
    · rw [hshape]; exact auto_not false a 64 _ ha ha0 (by decide) (by decide)
  refine ⟨_, _, next_none _ ?_⟩
  rw [begins_angle]
  unfold angleL
  rw [hauto, hmail]
  exact htag

/-! ### TokenCodes -/
theorem indexByte_hit (c : UInt8) : ∀ (a r : List UInt8), c ∉ a → Lib.indexByte (a ++ c :: r) c = (a.length : Int)
  | [], r, _ => by
    show Lib.indexByte (c :: r) c = 0
    unfold Lib.indexByte
    simp
  | x :: a, r, h => by
    have hx : x ≠ c := fun e => h (by rw [e]; exact List.mem_cons_self ..)
    have ih := indexByte_hit c a r (fun e => h (List.mem_cons_of_mem _ e))
    rw [List.cons_append]
    unfold Lib.indexByte
    rw [if_neg (by simpa using hx), ih, if_neg (by simp), List.length_cons]
    omega
theorem indexByte_miss (c : UInt8) : ∀ (a : List UInt8), c ∉ a → Lib.indexByte a c = -1
  | [], _ => rfl
  | x :: a, h => by
    have hx : x ≠ c := fun e => h (by rw [e]; exact List.mem_cons_self ..)
    have ih := indexByte_miss c a (fun e => h (List.mem_cons_of_mem _ e))
    unfold Lib.indexByte
    rw [if_neg (by simpa using hx), ih, if_pos (by rfl)]

theorem code_head (n : Nat) (hn : 1 ≤ n) (t x : List UInt8) (ht : t ≠ []) (h96 : (96 : UInt8) ∉ t) : amongL (List.replicate n 96 ++ (t ++ x)) [96] = n ∧ (∃ r, List.replicate n 96 ++ (t ++ x) = 96 :: r) := by
  obtain ⟨c, l, rfl⟩ : ∃ c l, t = c :: l := by cases t with | nil => exact absurd rfl ht | cons c l => exact ⟨c, l, rfl⟩
  have hc : c ≠ 96 := fun e => h96 (by rw [e]; exact List.mem_cons_self ..)
  refine ⟨?_, ?_⟩
  · rw [show List.replicate n (96 : UInt8) ++ (c :: l ++ x) = List.replicate n 96 ++ c :: (l ++ x) from rfl, among_to [96] _ c _ (rep_in _ _ _ (by decide)) (by simpa using hc), List.length_replicate]
  · obtain ⟨m, rfl⟩ : ∃ m, n = m + 1 := ⟨n - 1, by omega⟩
    exact ⟨_, by rw [List.replicate_succ, List.cons_append]⟩

theorem next_code (n : Nat) (hn : 1 ≤ n) (t : List UInt8) (ht : t ≠ []) (h96 : (96 : UInt8) ∉ t) : nextL (List.replicate n 96 ++ (t ++ List.replicate n 96)) = (.code (codeText t), 2 * n + t.length) := by
  obtain ⟨h1, r, hr⟩ := code_head n hn t (List.replicate n 96) ht h96
  have hb : beginsL (List.replicate n 96 ++ (t ++ List.replicate n 96)) = some (codeL (List.replicate n 96 ++ (t ++ List.replicate n 96))) := by
    rw [hr]; rfl
  have hd : (List.replicate n 96 ++ (t ++ List.replicate n 96)).drop n = t ++ List.replicate n 96 := List.drop_left' (by simp)
  obtain ⟨m, hm⟩ : ∃ m, n = m + 1 := ⟨n - 1, by omega⟩
  have hi : Lib.indexByte (t ++ List.replicate n 96) 96 = (t.length : Int) := by
    rw [hm, List.replicate_succ]; exact indexByte_hit 96 t _ h96
  have hd2 : (List.replicate n 96 ++ (t ++ List.replicate n 96)).drop (n + t.length) = List.replicate n 96 := by
    rw [← List.drop_drop, hd, List.drop_left' rfl]
  have hk : codeL (List.replicate n 96 ++ (t ++ List.replicate n 96)) = (.code (codeText t), 2 * n + t.length) := by
    unfold codeL
    rw [h1, codeGo, hd, hi, if_neg (by omega), Int.toNat_natCast, hd2, among_all [96] _ (rep_in _ _ _ (by decide)), List.length_replicate, if_pos rfl]
    have htk : ((List.replicate n 96 ++ (t ++ List.replicate n 96)).take (n + t.length)).drop n = t := by
      rw [← List.append_assoc, List.take_left' (by simp), List.drop_left' (by simp)]
    rw [htk]
    congr 1
    omega
  unfold nextL
  rw [hb, hk]
theorem next_nocode (n : Nat) (hn : 1 ≤ n) (t : List UInt8) (ht : t ≠ []) (h96 : (96 : UInt8) ∉ t) : nextL (List.replicate n 96 ++ t) = (.word (List.replicate n 96), n) := by
  obtain ⟨h1, r, hr⟩ := code_head n hn t [] ht h96
  rw [List.append_nil] at h1 hr
  have hb : beginsL (List.replicate n 96 ++ t) = some (codeL (List.replicate n 96 ++ t)) := by
    rw [hr]; rfl
  have hk : codeL (List.replicate n 96 ++ t) = (.word (List.replicate n 96), n) := by
    unfold codeL
    rw [h1, codeGo, List.drop_left' (by simp), indexByte_miss 96 t h96, if_pos (by decide), List.take_left' (by simp)]
  unfold nextL
  rw [hb, hk]

/-! ### TokenWords -/
/-- The bytes of the law: letters, blanks, dots, and what is no ASCII. -/
def wordB (c : UInt8) : Bool := (97 ≤ c && c ≤ 122) || c == 32 || c == 46 || 128 ≤ c
theorem wordB_sign : ∀ c : UInt8, wordB c = true → c ≠ 32 → specialL.contains c = false := fun c => allB (p := fun c => wordB c = true → c ≠ 32 → specialL.contains c = false) (by unfold AllB; decide +kernel) c
theorem next_words (c : UInt8) (r : List UInt8) (h : ∀ b ∈ c :: r, wordB b = true) : ∃ n, nextL (c :: r) = (.word ((c :: r).take n), n) ∧ 0 < n ∧ n ≤ (c :: r).length := by
  have hle := next_le (c :: r) (by simp)
  by_cases hc : c = 32
  · subst hc
    have hb : beginsL (32 :: r) = (if ((32 :: r).drop (amongL (32 :: r) [32])).head? = some 10 then some (.brk (decide (2 ≤ amongL (32 :: r) [32])), amongL (32 :: r) [32] + behindT ((32 :: r).drop (amongL (32 :: r) [32])))
      else some (.word ((32 :: r).take (amongL (32 :: r) [32])), amongL (32 :: r) [32])) := rfl
    have hne : ((32 :: r).drop (amongL (32 :: r) [32])).head? ≠ some 10 := by
      intro e
      have hm : (10 : UInt8) ∈ (32 :: r).drop (amongL (32 :: r) [32]) := List.mem_of_mem_head? e
      have := h 10 (List.mem_of_mem_drop hm)
      exact absurd this (by decide)
    rw [if_neg hne] at hb
    refine ⟨amongL (32 :: r) [32], ?_, ?_, among_le _ _⟩
    · unfold nextL
      rw [hb]
    · rw [among_cons]; simp
  · have hb := begins_plain c r (wordB_sign c (h c (List.mem_cons_self ..)) hc)
    refine ⟨plainTo (c :: r), next_none _ hb, ?_, ?_⟩
    · unfold plainTo
      split
      · omega
      · simp
    · unfold plainTo
      split
      · rename_i h0
        have := indexAny_lt specialL ((c :: r).drop 1) h0
        rw [List.length_drop] at this
        omega
      · exact Nat.le_refl _
/-- All tokens are words, and they are the text. -/
theorem all_words : ∀ (f : Nat) (s : List UInt8), s.length ≤ f → (∀ b ∈ s, wordB b = true) → ∃ ws : List (List UInt8), allL f s = ws.map Tok.word ∧ ws.flatten = s ∧ ws.length ≤ s.length
  | f, [], _, _ => ⟨[], all_nil f, rfl, Nat.le_refl _⟩
  | 0, c :: r, h, _ => by simp at h
  | f + 1, c :: r, h, hw => by
    obtain ⟨n, hn, h0, hl⟩ := next_words c r hw
    obtain ⟨ws, h1, h2, h3⟩ := all_words f ((c :: r).drop n) (by rw [List.length_drop]; simp only [List.length_cons] at *; omega) (fun b hb => hw b (List.mem_of_mem_drop hb))
    refine ⟨(c :: r).take n :: ws, ?_, ?_, ?_⟩
    · rw [all_cons f _ _ _ (by simp) hn, h1]; rfl
    · rw [List.flatten_cons, h2, List.take_append_drop]
    · rw [List.length_drop] at h3
      rw [List.length_cons]
      omega

end Go.Proofs.YtmllkffdejojbaaDoor
