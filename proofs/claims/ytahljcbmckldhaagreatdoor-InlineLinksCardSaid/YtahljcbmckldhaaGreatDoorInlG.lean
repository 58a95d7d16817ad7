/-
  The texts TokLaw2, InlLaw2, Token5, ParseLaw, Parse, Alive15, InlLaw3, InlLaw4, Flags, Slc15, Lines15, TokAtomIn, ParseAtoms, one behind the other.
-/
import Derived.Test.YtahljcbmckldhaaGreatDoorInlF
import Derived.Test.YtahljcbmckldhaaGreatDoorRows
import Derived.Deep.Grids
import Derived.Laws.IdiomStrings
import Derived.OpenShut
import Derived.Below
import Derived.Laws.OwnMore
import Derived.Deep.Slices
import Derived.BigRegion

/-
  What token's readers make of entities, of tags, of targets between angles, of code. Plain facts, no program in sight.
-/
namespace Go.Proofs.YtahljcbmckldhaaGreatDoor
open Go.RowKit
set_option maxRecDepth 100000
set_option linter.unusedVariables false
set_option linter.unusedSimpArgs false

theorem letters_take {l : List UInt8} {k : Nat} {c : UInt8} (h : Letters (l.take k)) (hk : l[k]? = some c) (hc : 97 ≤ c.toNat ∧ c.toNat ≤ 122) : Letters (l.take (k + 1)) := by
  obtain ⟨hlt, he⟩ := List.getElem?_eq_some_iff.1 hk
  rw [List.take_succ_eq_append_getElem hlt, he]
  refine h.append (fun b hb => ?_)
  rw [List.mem_singleton.1 hb]
  exact hc

/-! ### TokenEntities -/
theorem ent_cut (name more : List UInt8) (h : Letters name) : entAt (38 :: (name ++ 59 :: more)) = if (named name).2 = true then ((named name).1, name.length + 2) else ([], 0) := by
  have h1 : (name ++ 59 :: more).head? ≠ some 35 := by
    cases name with
    | nil => simp
    | cons c l => simp; exact ne_of_toNat (by have := h.head; simp; omega)
  have hc : Lib.cut (name ++ 59 :: more) [59] = (name, more, true) := cut_hit 59 name more (h.not_mem (by decide))
  rw [entAt_amp _ h1, hc]
  simp only
  rfl
theorem next_entity (name more : List UInt8) (h : Letters name) (hn : (named name).2 = true) : nextL (38 :: (name ++ 59 :: more)) = (.word (named name).1, name.length + 2) := by
  have hb : beginsL (38 :: (name ++ 59 :: more)) = some (.word (named name).1, name.length + 2) := by
    rw [beginsL, if_neg (by decide), if_neg (by decide), if_pos rfl, ent_cut name more h, if_pos hn, if_pos (by simp)]
  unfold nextL
  rw [hb]
theorem next_noentity (name more : List UInt8) (h : Letters name) (hm : Letters more) (hn : (named name).2 = false) : nextL (38 :: (name ++ 59 :: more)) = (.word (38 :: (name ++ 59 :: more)), name.length + more.length + 2) := by
  have hb : beginsL (38 :: (name ++ 59 :: more)) = none := by
    rw [beginsL, if_neg (by decide), if_neg (by decide), if_pos rfl, ent_cut name more h, if_neg (by rw [hn]; simp)]
  rw [next_none _ hb, plain_all 38 _ (by
    intro b hb
    rcases List.mem_append.1 hb with e | e
    · exact letter_plain (h b e)
    · rcases List.mem_cons.1 e with e | e
      · rw [e]; decide
      · exact letter_plain (hm b e))]
  rw [List.take_length]
  congr 1
  simp; omega

/-! ### tags -/
theorem lett_letters : AllB fun c => 97 ≤ c.toNat ∧ c.toNat ≤ 122 → lettersL.contains c = true := by unfold AllB; decide +kernel
theorem lett_auto : AllB fun c => 97 ≤ c.toNat ∧ c.toNat ≤ 122 → autoSet.contains c = true := by unfold AllB; decide +kernel
theorem lett_mail : AllB fun c => 97 ≤ c.toNat ∧ c.toNat ≤ 122 → mailSet.contains c = true := by unfold AllB; decide +kernel
theorem lett_host : AllB fun c => 97 ≤ c.toNat ∧ c.toNat ≤ 122 → hostSet.contains c = true := by unfold AllB; decide +kernel
theorem lett_name : AllB fun c => 97 ≤ c.toNat ∧ c.toNat ≤ 122 → nameSet.contains c = true := by unfold AllB; decide +kernel

theorem tagEnd_none : ∀ (r : List UInt8) (i : Nat), (∀ b ∈ r, b ≠ 62) → tagEnd r i = none
  | [], _, _ => rfl
  | c :: r, i, h => by
    rw [tagEnd, if_neg (h c (List.mem_cons_self ..))]
    split
    · rfl
    · exact tagEnd_none r (i + 1) (fun b hb => h b (List.mem_cons_of_mem _ hb))
theorem tagEnd_hit : ∀ (r x : List UInt8) (i : Nat), (∀ b ∈ r, b ≠ 60 ∧ b ≠ 62 ∧ b ≠ 0) → tagEnd (r ++ 62 :: x) i = some (i + r.length)
  | [], x, i, _ => by rw [List.nil_append, tagEnd, if_pos rfl]; rfl
  | c :: r, x, i, h => by
    obtain ⟨h1, h2, h3⟩ := h c (List.mem_cons_self ..)
    rw [List.cons_append, tagEnd, if_neg h2, if_neg (by rintro (e | e); exact h1 e; exact h3 e), tagEnd_hit r x (i + 1) (fun b hb => h b (List.mem_cons_of_mem _ hb)), List.length_cons]
    congr 1; omega

/-- A sign's beginning: an angle, a slash or none, a name of letters, and what stands behind. -/
def tagHead (e : Bool) (name : List UInt8) : List UInt8 := if e then 60 :: 47 :: name else 60 :: name
theorem tagHead_len (e : Bool) (name : List UInt8) : (tagHead e name).length = name.length + (if e then 2 else 1) := by
  unfold tagHead; cases e <;> simp

theorem tag_parts (e : Bool) (name : List UInt8) (d : UInt8) (r : List UInt8) (hn : Letters name) (h0 : name ≠ []) (hd1 : lettersL.contains d = false) (hd2 : nameSet.contains d = false) :
    tagL (tagHead e name ++ d :: r) = (if d ≠ 62 ∧ d ≠ 32 ∧ d ≠ 10 ∧ d ≠ 47 then none
      else match tagEnd (d :: r) (tagHead e name).length with
        | some i => some (.tag ((tagHead e name ++ d :: r).take (i + 1)), i + 1)
        | none => none) := by
  have key : ∀ a, (tagHead e name ++ d :: r).drop a = name ++ d :: r → a + name.length = (tagHead e name).length → tagAt (tagHead e name ++ d :: r) a = (if d ≠ 62 ∧ d ≠ 32 ∧ d ≠ 10 ∧ d ≠ 47 then none
      else match tagEnd (d :: r) (tagHead e name).length with
        | some i => some (.tag ((tagHead e name ++ d :: r).take (i + 1)), i + 1)
        | none => none) := by
    intro a ha hl
    have h1 : amongL (name ++ d :: r) lettersL = name.length := among_to _ _ _ _ (letter_in lett_letters hn) hd1
    have h2 : amongL (name ++ d :: r) (lettersL ++ digitsL ++ [45]) = name.length := among_to nameSet _ _ _ (letter_in lett_name hn) hd2
    have h3 : (tagHead e name ++ d :: r).drop (a + name.length) = d :: r := by
      rw [← List.drop_drop, ha, List.drop_left' rfl]
    unfold tagAt
    rw [ha, h1, h2, if_neg (by intro e; exact h0 (List.eq_nil_of_length_eq_zero e)), h3, hl]
    rfl
  unfold tagL
  cases e
  · have hne : ((tagHead false name ++ d :: r).drop 1).head? ≠ some 47 := by
      unfold tagHead
      cases name with
      | nil => exact absurd rfl h0
      | cons c l => simp; exact ne_of_toNat (by have := hn.head; simp; omega)
    rw [if_neg hne]
    exact key 1 (by simp [tagHead]) (by rw [tagHead_len]; simp; omega)
  · have hyes : ((tagHead true name ++ d :: r).drop 1).head? = some 47 := by simp [tagHead]
    rw [if_pos hyes]
    exact key 2 (by simp [tagHead]) (by rw [tagHead_len]; simp; omega)

/-- Behind a name of letters stands what no scheme and no address has. -/
theorem auto_not (e : Bool) (name : List UInt8) (d : UInt8) (r : List UInt8) (hn : Letters name) (h0 : name ≠ []) (hd : autoSet.contains d = false) (hd2 : d ≠ 58) : autoL (tagHead e name ++ d :: r) = none := by
  cases e
  · obtain ⟨c, l, rfl⟩ : ∃ c l, name = c :: l := by cases name with | nil => exact absurd rfl h0 | cons c l => exact ⟨c, l, rfl⟩
    have h2 : (tagHead false (c :: l) ++ d :: r).drop 2 = l ++ d :: r := by simp [tagHead]
    have ht : amongL ((tagHead false (c :: l) ++ d :: r).drop 2) autoSet = l.length := by rw [h2]; exact among_to _ _ _ _ (letter_in lett_auto hn.tail) hd
    refine auto_no _ l.length ht (Or.inr (Or.inr (Or.inr ?_)))
    rw [← List.drop_drop, h2, List.drop_left' rfl]
    simpa using hd2
  · refine auto_no _ _ rfl (Or.inl ?_)
    have : (tagHead true name ++ d :: r).drop 1 = 47 :: (name ++ d :: r) := by simp [tagHead]
    rw [this, among_stop _ _ _ (by decide)]
theorem mail_not (e : Bool) (name : List UInt8) (d : UInt8) (r : List UInt8) (hn : Letters name) (hd : mailSet.contains d = false) (hd2 : d ≠ 64) : mailL (tagHead e name ++ d :: r) = none := by
  cases e
  · have h1 : (tagHead false name ++ d :: r).drop 1 = name ++ d :: r := by simp [tagHead]
    have ht : amongL ((tagHead false name ++ d :: r).drop 1) mailSet = name.length := by rw [h1]; exact among_to _ _ _ _ (letter_in lett_mail hn) hd
    refine mail_no _ name.length _ ht rfl (Or.inr (Or.inl ?_))
    rw [← List.drop_drop, h1, List.drop_left' rfl]
    simpa using hd2
  · refine mail_no _ 0 _ ?_ rfl (Or.inl rfl)
    have : (tagHead true name ++ d :: r).drop 1 = 47 :: (name ++ d :: r) := by simp [tagHead]
    rw [this, among_stop _ _ _ (by decide)]

theorem next_angle (e : Bool) (name x : List UInt8) (h : autoL (tagHead e name ++ x) = none) (h2 : mailL (tagHead e name ++ x) = none) :
    beginsL (tagHead e name ++ x) = tagL (tagHead e name ++ x) := by
  have hb : beginsL (tagHead e name ++ x) = angleL (tagHead e name ++ x) := by
    unfold tagHead
    cases e <;> rfl
  rw [hb]
  unfold angleL
  rw [h, h2]

/-- A sign with something behind its name. -/
theorem next_tag (e : Bool) (name rest x : List UInt8) (hn : Letters name) (h0 : name ≠ []) (hr : ∀ b ∈ rest, b ≠ 60 ∧ b ≠ 62 ∧ b ≠ 0) :
    nextL (tagHead e name ++ 32 :: (rest ++ 62 :: x)) = (.tag (tagHead e name ++ 32 :: (rest ++ [62])), (tagHead e name).length + rest.length + 2) := by
  have ht := tag_parts e name 32 (rest ++ 62 :: x) hn h0 (by decide) (by decide)
  rw [if_neg (by decide), show (32 : UInt8) :: (rest ++ 62 :: x) = (32 :: rest) ++ 62 :: x from rfl, tagEnd_hit (32 :: rest) x _ (by
    intro b hb
    rcases List.mem_cons.1 hb with e | e
    · rw [e]; decide
    · exact hr b e)] at ht
  simp only at ht
  have hb := next_angle e name (32 :: (rest ++ 62 :: x)) (auto_not e name 32 _ hn h0 (by decide) (by decide)) (mail_not e name 32 _ hn (by decide) (by decide))
  unfold nextL
  rw [hb, show (32 : UInt8) :: (rest ++ 62 :: x) = (32 :: rest) ++ 62 :: x from rfl, ht]
  simp only [List.length_cons]
  have : (tagHead e name ++ ((32 :: rest) ++ 62 :: x)).take ((tagHead e name).length + (rest.length + 1) + 1) = tagHead e name ++ 32 :: (rest ++ [62]) := by
    rw [show tagHead e name ++ ((32 :: rest) ++ 62 :: x) = (tagHead e name ++ 32 :: (rest ++ [62])) ++ x by simp]
    exact List.take_left' (by simp; omega)
  rw [this]
  congr 1
theorem next_tag0 (e : Bool) (name : List UInt8) (hn : Letters name) (h0 : name ≠ []) : nextL (tagHead e name ++ [62]) = (.tag (tagHead e name ++ [62]), (tagHead e name).length + 1) := by
  have ht := tag_parts e name 62 [] hn h0 (by decide) (by decide)
  rw [if_neg (by decide), tagEnd, if_pos rfl] at ht
  simp only at ht
  have hb := next_angle e name [62] (auto_not e name 62 _ hn h0 (by decide) (by decide)) (mail_not e name 62 _ hn (by decide) (by decide))
  unfold nextL
  rw [hb, ht]
  simp only
  rw [List.take_of_length_le (by simp)]
theorem next_notag (e : Bool) (name rest : List UInt8) (hn : Letters name) (h0 : name ≠ []) (hr : ∀ b ∈ rest, b ≠ 60 ∧ b ≠ 62 ∧ b ≠ 0) : ∃ l n, nextL (tagHead e name ++ 32 :: rest) = (.word l, n) := by
  have ht := tag_parts e name 32 rest hn h0 (by decide) (by decide)
  rw [if_neg (by decide), tagEnd_none (32 :: rest) _ (by
    intro b hb
    rcases List.mem_cons.1 hb with e | e
    · rw [e]; decide
    · exact (hr b e).2.1)] at ht
  simp only at ht
  have hb := next_angle e name (32 :: rest) (auto_not e name 32 _ hn h0 (by decide) (by decide)) (mail_not e name 32 _ hn (by decide) (by decide))
  rw [ht] at hb
  exact ⟨_, _, next_none _ hb⟩

/-! ### TokenAutos -/
theorem autoEnd_hit : ∀ (r x : List UInt8) (i : Nat), (∀ b ∈ r, ¬ (b ≤ 32) ∧ b ≠ 60 ∧ b ≠ 127 ∧ b ≠ 62) → autoEnd (r ++ 62 :: x) i = some (i + r.length)
  | [], x, i, _ => by rw [List.nil_append, autoEnd, if_pos rfl]; rfl
  | c :: r, x, i, h => by
    obtain ⟨h1, h2, h3, h4⟩ := h c (List.mem_cons_self ..)
    rw [List.cons_append, autoEnd, if_neg h4, if_neg (by rintro (e | e | e); exact h1 e; exact h2 e; exact h3 e), autoEnd_hit r x (i + 1) (fun b hb => h b (List.mem_cons_of_mem _ hb)), List.length_cons]
    congr 1; omega
theorem autoEnd_blank : ∀ (r x : List UInt8) (i : Nat), (∀ b ∈ r, ¬ (b ≤ 32) ∧ b ≠ 60 ∧ b ≠ 127 ∧ b ≠ 62) → autoEnd (r ++ 32 :: x) i = none
  | [], x, i, _ => by rw [List.nil_append, autoEnd, if_neg (by decide), if_pos (by decide)]
  | c :: r, x, i, h => by
    obtain ⟨h1, h2, h3, h4⟩ := h c (List.mem_cons_self ..)
    rw [List.cons_append, autoEnd, if_neg h4, if_neg (by rintro (e | e | e); exact h1 e; exact h2 e; exact h3 e)]
    exact autoEnd_blank r x (i + 1) (fun b hb => h b (List.mem_cons_of_mem _ hb))
theorem letter_auto {c : UInt8} (h : 97 ≤ c.toNat ∧ c.toNat ≤ 122) : ¬ (c ≤ 32) ∧ c ≠ 60 ∧ c ≠ 127 ∧ c ≠ 62 :=
  allB (p := fun c => 97 ≤ c.toNat ∧ c.toNat ≤ 122 → ¬ (c ≤ 32) ∧ c ≠ 60 ∧ c ≠ 127 ∧ c ≠ 62) (by unfold AllB; decide +kernel) c h

/-- What stands between the angles, and the url that it is. -/
def autoText (mail : Bool) (a b : List UInt8) : List UInt8 := a ++ (if mail then 64 else 58) :: b
def autoUrl (mail : Bool) (a b : List UInt8) : List UInt8 := if mail then mailto ++ autoText mail a b else autoText mail a b

theorem auto_shape (mail : Bool) (a b x : List UInt8) : 60 :: (autoText mail a b ++ x) = tagHead false a ++ (if mail then 64 else 58) :: (b ++ x) := by
  unfold autoText tagHead; simp

theorem begins_angle (x : List UInt8) : beginsL (60 :: x) = angleL (60 :: x) := rfl

theorem next_auto (mail : Bool) (a b x : List UInt8) (ha : Letters a) (hb : Letters b) (h2 : 2 ≤ a.length) (h20 : a.length ≤ 20) (hb0 : b ≠ []) :
    nextL (60 :: (autoText mail a b ++ 62 :: x)) = (.auto (autoUrl mail a b) (autoText mail a b), (autoText mail a b).length + 2) := by
  obtain ⟨c, l, rfl⟩ : ∃ c l, a = c :: l := by cases a with | nil => simp at h2 | cons c l => exact ⟨c, l, rfl⟩
  have hl : (autoText mail (c :: l) b).length = l.length + 1 + (1 + b.length) := by unfold autoText; simp; omega
  cases mail
  · have ht : ∀ y, ((60 : UInt8) :: (autoText false (c :: l) b ++ y)).drop 2 = l ++ 58 :: (b ++ y) := by intro y; unfold autoText; simp
    have h1 : ((60 : UInt8) :: (autoText false (c :: l) b ++ 62 :: x)).drop 1 = (c :: l) ++ 58 :: (b ++ 62 :: x) := by unfold autoText; simp
    have hau : autoL (60 :: (autoText false (c :: l) b ++ 62 :: x)) = some (.auto (autoText false (c :: l) b) (autoText false (c :: l) b), (autoText false (c :: l) b).length + 2) := by
      have hk : amongL ((60 :: (autoText false (c :: l) b ++ 62 :: x)).drop 2) autoSet = l.length := by
        rw [ht]; exact among_to _ _ _ _ (letter_in lett_auto ha.tail) (by decide)
      have hd : (60 :: (autoText false (c :: l) b ++ 62 :: x)).drop (2 + l.length) = 58 :: (b ++ 62 :: x) := by
        rw [← List.drop_drop, ht, List.drop_left' rfl]
      rw [auto_eq _ l.length (by rw [h1, among_to _ _ _ _ (letter_in lett_letters ha) (by decide)]; simp) hk (by simp at h2; omega) (by simp at h20; omega) (by rw [hd]; rfl), hd]
      rw [show (58 : UInt8) :: (b ++ 62 :: x) = (58 :: b) ++ 62 :: x from rfl, autoEnd_hit (58 :: b) x _ (by
        intro y hy
        rcases List.mem_cons.1 hy with e | e
        · rw [e]; decide
        · exact letter_auto (hb y e))]
      simp only [List.length_cons]
      have htk : ((60 :: (autoText false (c :: l) b ++ 62 :: x)).take (2 + l.length + (b.length + 1))).drop 1 = autoText false (c :: l) b := by
        rw [show 2 + l.length + (b.length + 1) = ((autoText false (c :: l) b).length) + 1 by rw [hl]; omega, List.take_succ_cons, List.drop_succ_cons, List.drop_zero, List.take_left' rfl]
      rw [htk]
      congr 2
      rw [hl]; omega
    unfold nextL
    rw [begins_angle]
    unfold angleL
    rw [hau]
    rfl
  · have h1 : ((60 : UInt8) :: (autoText true (c :: l) b ++ 62 :: x)).drop 1 = (c :: l) ++ 64 :: (b ++ 62 :: x) := by unfold autoText; simp
    have hn : amongL ((60 :: (autoText true (c :: l) b ++ 62 :: x)).drop 1) mailSet = (c :: l).length := by rw [h1]; exact among_to _ _ _ _ (letter_in lett_mail ha) (by decide)
    have hd1 : (60 :: (autoText true (c :: l) b ++ 62 :: x)).drop (1 + (c :: l).length) = 64 :: (b ++ 62 :: x) := by rw [← List.drop_drop, h1, List.drop_left' rfl]
    have hd2 : (60 :: (autoText true (c :: l) b ++ 62 :: x)).drop (2 + (c :: l).length) = b ++ 62 :: x := by
      rw [show 2 + (c :: l).length = (1 + (c :: l).length) + 1 by omega, ← List.drop_drop, hd1]; rfl
    have hm : amongL ((60 :: (autoText true (c :: l) b ++ 62 :: x)).drop (2 + (c :: l).length)) hostSet = b.length := by rw [hd2]; exact among_to _ _ _ _ (letter_in lett_host hb) (by decide)
    have hd3 : (60 :: (autoText true (c :: l) b ++ 62 :: x)).drop (2 + (c :: l).length + b.length) = 62 :: x := by rw [← List.drop_drop, hd2, List.drop_left' rfl]
    have hna : autoL (60 :: (autoText true (c :: l) b ++ 62 :: x)) = none := by
      rw [auto_shape]; exact auto_not false (c :: l) 64 _ ha (by simp) (by decide) (by decide)
    have hml := mail_yes _ _ _ hn hm (by simp) (by rw [hd1]; rfl) (by intro e; exact hb0 (List.eq_nil_of_length_eq_zero e)) (by rw [hd3]; rfl)
    unfold nextL
    rw [begins_angle]
    unfold angleL
    rw [hna, hml]
    simp only
    have htk : ((60 :: (autoText true (c :: l) b ++ 62 :: x)).take (2 + (c :: l).length + b.length)).drop 1 = autoText true (c :: l) b := by
      rw [show 2 + (c :: l).length + b.length = ((autoText true (c :: l) b).length) + 1 by rw [hl]; simp; omega, List.take_succ_cons, List.drop_succ_cons, List.drop_zero, List.take_left' rfl]
    rw [htk]
    congr 1
    rw [hl]; simp; omega

theorem next_noauto (mail : Bool) (a b : List UInt8) (ha : Letters a) (hb : Letters b) (h2 : 2 ≤ a.length) (h20 : a.length ≤ 20) (hb0 : b ≠ []) :
    ∃ l n, nextL (60 :: (autoText mail a b ++ [32, 120, 62])) = (.word l, n) := by
  have ha0 : a ≠ [] := by intro e; rw [e] at h2; simp at h2
  have hshape := auto_shape mail a b [32, 120, 62]
  obtain ⟨c, l, hcl⟩ : ∃ c l, a = c :: l := by cases a with | nil => simp at h2 | cons c l => exact ⟨c, l, rfl⟩
  have htag : tagL (60 :: (autoText mail a b ++ [32, 120, 62])) = none := by
    rw [hshape]
    cases mail
    · rw [show (if false = true then (64 : UInt8) else 58) = 58 from rfl, tag_parts false a 58 _ ha ha0 (by decide) (by decide), if_pos (by decide)]
    · rw [show (if true = true then (64 : UInt8) else 58) = 64 from rfl, tag_parts false a 64 _ ha ha0 (by decide) (by decide), if_pos (by decide)]
  have hmail : mailL (60 :: (autoText mail a b ++ [32, 120, 62])) = none := by
    cases mail
    · rw [hshape]; exact mail_not false a 58 _ ha (by decide) (by decide)
    · have h1 : ((60 : UInt8) :: (autoText true a b ++ [32, 120, 62])).drop 1 = a ++ 64 :: (b ++ [32, 120, 62]) := by unfold autoText; simp
      have hn : amongL ((60 :: (autoText true a b ++ [32, 120, 62])).drop 1) mailSet = a.length := by rw [h1]; exact among_to _ _ _ _ (letter_in lett_mail ha) (by decide)
      have hd2 : (60 :: (autoText true a b ++ [32, 120, 62])).drop (2 + a.length) = b ++ [32, 120, 62] := by
        rw [show 2 + a.length = 1 + (a.length + 1) by omega, ← List.drop_drop, h1, ← List.drop_drop, List.drop_left' rfl]; rfl
      have hm : amongL ((60 :: (autoText true a b ++ [32, 120, 62])).drop (2 + a.length)) hostSet = b.length := by rw [hd2]; exact among_to _ _ _ _ (letter_in lett_host hb) (by decide)
      refine mail_no _ a.length b.length hn hm (Or.inr (Or.inr (Or.inr ?_)))
      rw [← List.drop_drop, hd2, List.drop_left' rfl]
      simp
  have hauto : autoL (60 :: (autoText mail a b ++ [32, 120, 62])) = none := by
    cases mail
    · subst hcl
      have ht : ((60 : UInt8) :: (autoText false (c :: l) b ++ [32, 120, 62])).drop 2 = l ++ 58 :: (b ++ [32, 120, 62]) := by unfold autoText; simp
      have h1 : ((60 : UInt8) :: (autoText false (c :: l) b ++ [32, 120, 62])).drop 1 = (c :: l) ++ 58 :: (b ++ [32, 120, 62]) := by unfold autoText; simp
      have hk : amongL ((60 :: (autoText false (c :: l) b ++ [32, 120, 62])).drop 2) autoSet = l.length := by
        rw [ht]; exact among_to _ _ _ _ (letter_in lett_auto ha.tail) (by decide)
      have hd : (60 :: (autoText false (c :: l) b ++ [32, 120, 62])).drop (2 + l.length) = 58 :: (b ++ [32, 120, 62]) := by
        rw [← List.drop_drop, ht, List.drop_left' rfl]
      rw [auto_eq _ l.length (by rw [h1, among_to _ _ _ _ (letter_in lett_letters ha) (by decide)]; simp) hk (by simp at h2; omega) (by simp at h20; omega) (by rw [hd]; rfl), hd]
      rw [show (58 : UInt8) :: (b ++ [32, 120, 62]) = (58 :: b) ++ 32 :: [120, 62] from rfl, autoEnd_blank (58 :: b) [120, 62] _ (by
        intro y hy
        rcases List.mem_cons.1 hy with e | e
        · rw [e]; decide
        · exact letter_auto (hb y e))]
    · rw [hshape]; exact auto_not false a 64 _ ha ha0 (by decide) (by decide)
  refine ⟨_, _, next_none _ ?_⟩
  rw [begins_angle]
  unfold angleL
  rw [hauto, hmail]
  exact htag

/-! ### TokenCodes -/
theorem indexByte_hit (c : UInt8) : ∀ (a r : List UInt8), c ∉ a → Lib.indexByte (a ++ c :: r) c = (a.length : Int)
  | [], r, _ => by
    show Lib.indexByte (c :: r) c = 0
    unfold Lib.indexByte
    simp
  | x :: a, r, h => by
    have hx : x ≠ c := fun e => h (by rw [e]; exact List.mem_cons_self ..)
    have ih := indexByte_hit c a r (fun e => h (List.mem_cons_of_mem _ e))
    rw [List.cons_append]
    unfold Lib.indexByte
    rw [if_neg (by simpa using hx), ih, if_neg (by simp), List.length_cons]
    omega
theorem indexByte_miss (c : UInt8) : ∀ (a : List UInt8), c ∉ a → Lib.indexByte a c = -1
  | [], _ => rfl
  | x :: a, h => by
    have hx : x ≠ c := fun e => h (by rw [e]; exact List.mem_cons_self ..)
    have ih := indexByte_miss c a (fun e => h (List.mem_cons_of_mem _ e))
    unfold Lib.indexByte
    rw [if_neg (by simpa using hx), ih, if_pos (by rfl)]

theorem code_head (n : Nat) (hn : 1 ≤ n) (t x : List UInt8) (ht : t ≠ []) (h96 : (96 : UInt8) ∉ t) : amongL (List.replicate n 96 ++ (t ++ x)) [96] = n ∧ (∃ r, List.replicate n 96 ++ (t ++ x) = 96 :: r) := by
  obtain ⟨c, l, rfl⟩ : ∃ c l, t = c :: l := by cases t with | nil => exact absurd rfl ht | cons c l => exact ⟨c, l, rfl⟩
  have hc : c ≠ 96 := fun e => h96 (by rw [e]; exact List.mem_cons_self ..)
  refine ⟨?_, ?_⟩
  · rw [show List.replicate n (96 : UInt8) ++ (c :: l ++ x) = List.replicate n 96 ++ c :: (l ++ x) from rfl, among_to [96] _ c _ (rep_in _ _ _ (by decide)) (by simpa using hc), List.length_replicate]
  · obtain ⟨m, rfl⟩ : ∃ m, n = m + 1 := ⟨n - 1, by omega⟩
    exact ⟨_, by rw [List.replicate_succ, List.cons_append]⟩

theorem next_code (n : Nat) (hn : 1 ≤ n) (t : List UInt8) (ht : t ≠ []) (h96 : (96 : UInt8) ∉ t) : nextL (List.replicate n 96 ++ (t ++ List.replicate n 96)) = (.code (codeText t), 2 * n + t.length) := by
  obtain ⟨h1, r, hr⟩ := code_head n hn t (List.replicate n 96) ht h96
  have hb : beginsL (List.replicate n 96 ++ (t ++ List.replicate n 96)) = some (codeL (List.replicate n 96 ++ (t ++ List.replicate n 96))) := by
    rw [hr]; rfl
  have hd : (List.replicate n 96 ++ (t ++ List.replicate n 96)).drop n = t ++ List.replicate n 96 := List.drop_left' (by simp)
  obtain ⟨m, hm⟩ : ∃ m, n = m + 1 := ⟨n - 1, by omega⟩
  have hi : Lib.indexByte (t ++ List.replicate n 96) 96 = (t.length : Int) := by
    rw [hm, List.replicate_succ]; exact indexByte_hit 96 t _ h96
  have hd2 : (List.replicate n 96 ++ (t ++ List.replicate n 96)).drop (n + t.length) = List.replicate n 96 := by
    rw [← List.drop_drop, hd, List.drop_left' rfl]
  have hk : codeL (List.replicate n 96 ++ (t ++ List.replicate n 96)) = (.code (codeText t), 2 * n + t.length) := by
    unfold codeL
    rw [h1, codeGo, hd, hi, if_neg (by omega), Int.toNat_natCast, hd2, among_all [96] _ (rep_in _ _ _ (by decide)), List.length_replicate, if_pos rfl]
    have htk : ((List.replicate n 96 ++ (t ++ List.replicate n 96)).take (n + t.length)).drop n = t := by
      rw [← List.append_assoc, List.take_left' (by simp), List.drop_left' (by simp)]
    rw [htk]
    congr 1
    omega
  unfold nextL
  rw [hb, hk]
theorem next_nocode (n : Nat) (hn : 1 ≤ n) (t : List UInt8) (ht : t ≠ []) (h96 : (96 : UInt8) ∉ t) : nextL (List.replicate n 96 ++ t) = (.word (List.replicate n 96), n) := by
  obtain ⟨h1, r, hr⟩ := code_head n hn t [] ht h96
  rw [List.append_nil] at h1 hr
  have hb : beginsL (List.replicate n 96 ++ t) = some (codeL (List.replicate n 96 ++ t)) := by
    rw [hr]; rfl
  have hk : codeL (List.replicate n 96 ++ t) = (.word (List.replicate n 96), n) := by
    unfold codeL
    rw [h1, codeGo, List.drop_left' (by simp), indexByte_miss 96 t h96, if_pos (by decide), List.take_left' (by simp)]
  unfold nextL
  rw [hb, hk]

/-! ### TokenWords -/
/-- The bytes of the law: letters, blanks, dots, and what is no ASCII. -/
def wordB (c : UInt8) : Bool := (97 ≤ c && c ≤ 122) || c == 32 || c == 46 || 128 ≤ c
theorem wordB_sign : ∀ c : UInt8, wordB c = true → c ≠ 32 → specialL.contains c = false := fun c => allB (p := fun c => wordB c = true → c ≠ 32 → specialL.contains c = false) (by unfold AllB; decide +kernel) c
theorem next_words (c : UInt8) (r : List UInt8) (h : ∀ b ∈ c :: r, wordB b = true) : ∃ n, nextL (c :: r) = (.word ((c :: r).take n), n) ∧ 0 < n ∧ n ≤ (c :: r).length := by
  have hle := next_le (c :: r) (by simp)
  by_cases hc : c = 32
  · subst hc
    have hb : beginsL (32 :: r) = (if ((32 :: r).drop (amongL (32 :: r) [32])).head? = some 10 then some (.brk (decide (2 ≤ amongL (32 :: r) [32])), amongL (32 :: r) [32] + behindT ((32 :: r).drop (amongL (32 :: r) [32])))
      else some (.word ((32 :: r).take (amongL (32 :: r) [32])), amongL (32 :: r) [32])) := rfl
    have hne : ((32 :: r).drop (amongL (32 :: r) [32])).head? ≠ some 10 := by
      intro e
      have hm : (10 : UInt8) ∈ (32 :: r).drop (amongL (32 :: r) [32]) := List.mem_of_mem_head? e
      have := h 10 (List.mem_of_mem_drop hm)
      exact absurd this (by decide)
    rw [if_neg hne] at hb
    refine ⟨amongL (32 :: r) [32], ?_, ?_, among_le _ _⟩
    · unfold nextL
      rw [hb]
    · rw [among_cons]; simp
  · have hb := begins_plain c r (wordB_sign c (h c (List.mem_cons_self ..)) hc)
    refine ⟨plainTo (c :: r), next_none _ hb, ?_, ?_⟩
    · unfold plainTo
      split
      · omega
      · simp
    · unfold plainTo
      split
      · rename_i h0
        have := indexAny_lt specialL ((c :: r).drop 1) h0
        rw [List.length_drop] at this
        omega
      · exact Nat.le_refl _
/-- All tokens are words, and they are the text. -/
theorem all_words : ∀ (f : Nat) (s : List UInt8), s.length ≤ f → (∀ b ∈ s, wordB b = true) → ∃ ws : List (List UInt8), allL f s = ws.map Tok.word ∧ ws.flatten = s ∧ ws.length ≤ s.length
  | f, [], _, _ => ⟨[], all_nil f, rfl, Nat.le_refl _⟩
  | 0, c :: r, h, _ => by simp at h
  | f + 1, c :: r, h, hw => by
    obtain ⟨n, hn, h0, hl⟩ := next_words c r hw
    obtain ⟨ws, h1, h2, h3⟩ := all_words f ((c :: r).drop n) (by rw [List.length_drop]; simp only [List.length_cons] at *; omega) (fun b hb => hw b (List.mem_of_mem_drop hb))
    refine ⟨(c :: r).take n :: ws, ?_, ?_, ?_⟩
    · rw [all_cons f _ _ _ (by simp) hn, h1]; rfl
    · rw [List.flatten_cons, h2, List.take_append_drop]
    · rw [List.length_drop] at h3
      rw [List.length_cons]
      omega

end Go.Proofs.YtahljcbmckldhaaGreatDoor

/-
  InlineNotes, InlineNames, InlineShut, InlineCodes, InlinePlain, InlineLines, InlineAutos, InlineEscapes: what Parse makes of their texts. Plain facts.
-/
namespace Go.Proofs.YtahljcbmckldhaaGreatDoor
open Go.RowKit
set_option linter.unusedVariables false
set_option linter.unusedSimpArgs false

theorem next_open (c : List UInt8) : nextL (91 :: c) = (.mark [91], 1) := rfl
theorem next_shut (c : List UInt8) : nextL (93 :: c) = (.mark [93], 1) := rfl
theorem next_image (c : List UInt8) : nextL (33 :: 91 :: c) = (.mark [33, 91], 2) := rfl

theorem token_mark (t : Option (List DefL)) (s : List UInt8) (ts : List AtomT) (P : List UInt8 → List Inl) (st : PSt) (l : List UInt8) (i next : Nat) : tokenL t s ts P st (.mark l) i next =
    if l = [93] then ((closeL t s st i next).1, next + (closeL t s st i next).2)
    else (PSt.put { st with opens := st.opens ++ [⟨st.items.length, next, decide (l = [33, 91]), false⟩] } [wordsI l], next) := rfl

section
variable (t : Option (List DefL)) (ts : List AtomT) (P : List UInt8 → List Inl) (st : PSt) (s : List UInt8)

theorem run_word (a b c : List UInt8) (hs : s = a ++ (b ++ c)) (hb : b ≠ []) (hp : ∀ x ∈ b, specialL.contains x = false) (hc : c = [] ∨ ∃ d r, c = d :: r ∧ specialL.contains d = true) :
    parseFrom t s ts P st a.length = parseFrom t s ts P (st.put [wordsI b]) (a ++ b).length := by
  subst hs; exact from_word t ts P st a b c hb hp hc
theorem run_open (a c : List UInt8) (hs : s = a ++ ([91] ++ c)) :
    parseFrom t s ts P st a.length = parseFrom t s ts P (PSt.put { st with opens := st.opens ++ [⟨st.items.length, a.length + 1, false, false⟩] } [wordsI [91]]) (a ++ [91]).length := by
  subst hs
  exact from_app t ts P st _ a [91] c (.mark [91]) (by simp) (next_open c) (by rw [token_mark, if_neg (by decide), List.length_append]; rfl)
theorem run_image (a c : List UInt8) (hs : s = a ++ ([33, 91] ++ c)) :
    parseFrom t s ts P st a.length = parseFrom t s ts P (PSt.put { st with opens := st.opens ++ [⟨st.items.length, a.length + 2, true, false⟩] } [wordsI [33, 91]]) (a ++ [33, 91]).length := by
  subst hs
  exact from_app t ts P st _ a [33, 91] c (.mark [33, 91]) (by simp) (next_image c) (by rw [token_mark, if_neg (by decide), List.length_append]; rfl)
/-- A bracket that closes: how many bytes 'b' behind it belong to it. -/
theorem run_shut (a b c : List UInt8) (st' : PSt) (hs : s = a ++ ([93] ++ (b ++ c))) (h : closeL t s st a.length (a.length + 1) = (st', b.length)) :
    parseFrom t s ts P st a.length = parseFrom t s ts P st' (a ++ ([93] ++ b)).length := by
  subst hs
  refine from_step t _ ts P st st' a.length _ 1 (.mark [93]) (by simp) (by rw [List.drop_left]; exact next_shut _) ?_
  rw [token_mark, if_pos rfl, h]
  simp; omega
end

/-! ### names and notes -/
theorem letter_plainS {l : List UInt8} (h : Letters l) : ∀ x ∈ l, specialL.contains x = false := fun x hx => letter_plain (h x hx)
theorem spec93 : specialL.contains 93 = true := by decide
theorem spec91 : specialL.contains 91 = true := by decide

theorem close_none {t : Option (List DefL)} {s : List UInt8} {st : PSt} {i n : Nat} (h : st.opens = []) : closeL t s st i n = (st.put [wordsI [93]], 0) := by
  unfold closeL; rw [h]; rfl
theorem close_some {t : Option (List DefL)} {s : List UInt8} {items : List IItem} {os : List Opn} {o : Opn} {i n : Nat} : closeL t s ⟨items, os ++ [o]⟩ i n = closeOpen t s ⟨items, os⟩ o i n := by
  unfold closeL
  simp
theorem close_word {t : Option (List DefL)} {s x b : List UInt8} {st : PSt} {o : Opn} {i n : Nat} (hx : (s.take i).drop o.fin = x) (hb : s.drop n = b) (h1 : (askedL t x).2 = false) (h2 : (inlLinkL t x b).2.2 = false) : closeOpen t s st o i n = (st.put [wordsI [93]], 0) := by
  unfold closeOpen
  rw [hx, hb]
  split
  · rfl
  · simp [h1, h2]
theorem close_asked {t : Option (List DefL)} {s x : List UInt8} {st : PSt} {o : Opn} {i n : Nat} {y : Inl} (hx : (s.take i).drop o.fin = x) (hs : o.shut = false) (hi : o.image = false) (h1 : askedL t x = (y, true)) : closeOpen t s st o i n = (PSt.put { st with items := st.items.take o.at' } [y], 0) := by
  unfold closeOpen
  rw [hx, if_neg (by rw [hs]; simp), h1, if_pos ⟨rfl, hi⟩]
theorem close_link {t : Option (List DefL)} {s x b : List UInt8} {st : PSt} {o : Opn} {i n m : Nat} {y : Inl} (hx : (s.take i).drop o.fin = x) (hb : s.drop n = b) (hs : o.shut = false) (hi : o.image = false) (h1 : (askedL t x).2 = false) (h2 : inlLinkL t x b = (y, m, true)) :
    closeOpen t s st o i n = ({ (PSt.put { st with items := st.items.take o.at' } (withinL y (groupL (st.items.drop (o.at' + 1))))) with opens := st.opens.map shutOpen }, m) := by
  unfold closeOpen
  rw [hx, hb, if_neg (by rw [hs]; simp), if_neg (by rw [h1]; simp), h2, if_neg (by simp), if_neg (by rw [hi]; simp)]
theorem close_image {t : Option (List DefL)} {s x b : List UInt8} {st : PSt} {o : Opn} {i n m : Nat} {y : Inl} (hx : (s.take i).drop o.fin = x) (hb : s.drop n = b) (hs : o.shut = false) (hi : o.image = true) (h2 : inlLinkL t x b = (y, m, true)) :
    closeOpen t s st o i n = (PSt.put { st with items := st.items.take o.at' } [{ y with kind := 6, text := textL (groupL (st.items.drop (o.at' + 1))) }], m) := by
  unfold closeOpen
  rw [hx, hb, if_neg (by rw [hs]; simp), if_neg (by rw [hi]; simp), h2, if_neg (by simp), if_pos hi]
theorem inside_no (b : List UInt8) (h : b.head? ≠ some 40) : inside b = ([], [], 0, false) := by
  unfold inside; rw [if_neg h]
theorem group_words (ws : List (List UInt8)) (h : ws.flatten ≠ []) : groupL (ws.map fun w => (⟨0, 0, false, false, [wordsI w]⟩ : IItem)) = [wordsI ws.flatten] := by
  rw [group_plain _ (fun x hx => by obtain ⟨w, _, rfl⟩ := List.mem_map.1 hx; rfl), List.flatMap_map]
  rw [show (ws.flatMap fun w => [wordsI w]) = ws.map wordsI by
    clear h
    induction ws with
    | nil => rfl
    | cons w ws ih => rw [List.flatMap_cons, ih]; rfl]
  exact merge_words0 ws h

def noteDef (name : List UInt8) : DefL := ⟨name, [], [], [120], true⟩
def noteTab (name : List UInt8) (known : Bool) : List DefL := if known then [noteDef name] else []
theorem find_note (name : List UInt8) (known : Bool) (hn : Letters name) (h0 : name ≠ []) (h20 : name.length ≤ 20) : findL (some (noteTab name known)) name true = if known then (noteDef name, true) else (DefL.none, false) := by
  unfold findL
  simp only
  rw [name_letters name hn h0 (by omega), if_neg (by simp)]
  cases known
  · rfl
  · simp [noteTab, lookL, noteDef]
theorem find_other (name x : List UInt8) (known : Bool) : findL (some (noteTab name known)) x false = (DefL.none, false) := by
  unfold findL
  simp only
  split
  · rfl
  · cases known <;> simp [noteTab, lookL, noteDef]

theorem wordsS (c : UInt8) (name : List UInt8) (hn : Letters name) (hc : specialL.contains c = false) : ∀ x ∈ c :: name, specialL.contains x = false := fun x hx => by
  rcases List.mem_cons.1 hx with rfl | hx
  · exact hc
  · exact letter_plainS hn x hx

/-- '[' c name ']', c no special sign: the state ahead of the last bracket. -/
theorem run_one (t : Option (List DefL)) (ts : List AtomT) (P : List UInt8 → List Inl) (x c : List UInt8) (hx : x ≠ []) (hp : ∀ b ∈ x, specialL.contains b = false) :
    parseFrom t ([91] ++ (x ++ ([93] ++ c))) ts P ⟨[], []⟩ 0 = parseFrom t ([91] ++ (x ++ ([93] ++ c))) ts P ⟨[⟨0, 0, false, false, [wordsI [91]]⟩, ⟨0, 0, false, false, [wordsI x]⟩], [] ++ [⟨0, 1, false, false⟩]⟩ ([91] ++ x).length := by
  have h1 := run_open t ts P ⟨[], []⟩ ([91] ++ (x ++ ([93] ++ c))) [] (x ++ ([93] ++ c)) rfl
  rw [show parseFrom t ([91] ++ (x ++ ([93] ++ c))) ts P ⟨[], []⟩ 0 = _ from h1]
  rw [run_word t ts P _ _ ([] ++ [91]) x ([93] ++ c) (by simp) hx hp (Or.inr ⟨93, c, rfl, spec93⟩)]
  rfl
theorem take_mid (a x c : List UInt8) (f : Nat) (hf : f = a.length) : (((a ++ (x ++ c)).take (a ++ x).length).drop f) = x := by
  subst hf
  rw [← List.append_assoc, List.take_left' rfl, List.drop_left' rfl]

theorem notes_plain (name : List UInt8) (known : Bool) (hn : Letters name) (h0 : name ≠ []) (h20 : name.length ≤ 20) :
    parse0 (some (noteTab name known)) (91 :: 94 :: (name ++ [93])) = if known then [⟨10, 0, name, [], []⟩] else [wordsI (91 :: 94 :: (name ++ [93]))] := by
  have hs : (91 : UInt8) :: 94 :: (name ++ [93]) = [91] ++ ((94 :: name) ++ ([93] ++ [])) := by simp
  unfold parse0
  rw [parse_from, hs, run_one _ _ _ (94 :: name) [] (by simp) (wordsS 94 name hn (by decide))]
  have hx : (([91] ++ ((94 :: name) ++ ([93] ++ []))).take ([91] ++ (94 :: name)).length).drop 1 = 94 :: name := take_mid [91] (94 :: name) _ 1 rfl
  have hb : ([91] ++ ((94 :: name) ++ ([93] ++ []))).drop (([91] ++ (94 :: name)).length + 1) = ([] : List UInt8) := List.drop_eq_nil_of_le (by simp)
  have ha : askedL (some (noteTab name known)) (94 :: name) = (⟨10, 0, (findL (some (noteTab name known)) name true).1.name, [], []⟩, (findL (some (noteTab name known)) name true).2) := by
    unfold askedL
    rw [preAt_yes, if_pos rfl]
  rw [find_note name known hn h0 h20] at ha
  cases known
  · have hl : (inlLinkL (some (noteTab name false)) (94 :: name) []).2.2 = false := by
      unfold inlLinkL
      rw [inside_no [] (by simp), if_neg (by simp), find_other]
    rw [run_shut _ _ _ _ _ ([91] ++ (94 :: name)) [] [] _ (by simp) (by rw [close_some]; exact close_word hx hb (by rw [ha]; rfl) hl)]
    rw [from_end _ _ _ _ _ _ (by simp)]
    have := group_words [[91], 94 :: name, [93]] (by simp)
    simpa [PSt.put] using this
  · rw [run_shut _ _ _ _ _ ([91] ++ (94 :: name)) [] [] _ (by simp) (by rw [close_some]; exact close_asked hx rfl rfl (by rw [ha]; rfl))]
    rw [from_end _ _ _ _ _ _ (by simp)]
    rfl

theorem anchor_letter : AllB fun c => 97 ≤ c.toNat ∧ c.toNat ≤ 122 → anchorSet.contains c = true := by unfold AllB; decide +kernel
theorem cross_plain (t : Option (List DefL)) (name : List UInt8) (hn : Letters name) (h0 : name ≠ []) :
    parse0 t (91 :: 35 :: (name ++ [93])) = [⟨11, 0, name, [], []⟩] := by
  have hs : (91 : UInt8) :: 35 :: (name ++ [93]) = [91] ++ ((35 :: name) ++ ([93] ++ [])) := by simp
  unfold parse0
  rw [parse_from, hs, run_one _ _ _ (35 :: name) [] (by simp) (wordsS 35 name hn (by decide))]
  have hx : (([91] ++ ((35 :: name) ++ ([93] ++ []))).take ([91] ++ (35 :: name)).length).drop 1 = 35 :: name := take_mid [91] (35 :: name) _ 1 rfl
  have ha : askedL t (35 :: name) = (⟨11, 0, name, [], []⟩, true) := by
    unfold askedL
    rw [preAt_no 94 (35 :: name) (by simp), if_neg (by simp), preAt_yes]
    rw [if_neg]
    rintro (h | h | h)
    · cases h
    · exact h0 h
    · obtain ⟨c, hc, hc2⟩ := List.any_eq_true.1 h
      rw [allB (p := fun c => 97 ≤ c.toNat ∧ c.toNat ≤ 122 → anchorSet.contains c = true) anchor_letter c (hn c hc)] at hc2
      cases hc2
  rw [run_shut _ _ _ _ _ ([91] ++ (35 :: name)) [] [] _ (by simp) (by rw [close_some]; exact close_asked hx rfl rfl ha)]
  rw [from_end _ _ _ _ _ _ (by simp)]
  rfl

end Go.Proofs.YtahljcbmckldhaaGreatDoor

/-
  inline.parser.token: a bracket that closes; each token.
-/
namespace Go.Proofs.YtahljcbmckldhaaGreatDoor
open Go.RowKit
set_option maxRecDepth 100000
set_option linter.unusedVariables false
set_option linter.unusedSimpArgs false

theorem close_any {W k : Nat} (B0 P : Nat) (s : ByteArray) (av tv : Value) (t : Option (List DefL)) (ts : List AtomT) (st : PSt) (i next : Nat) (w : World)
    (hL : Low B0 w tv av t ts) (hP0 : B0 ≤ P) (h : StAt w B0 P s av tv st) (hl : ∀ ds, t = some ds → ds.length ≤ 1000000000)
    (hp : PInv W k i st) (hk : 2 * (k * W) + k ≤ 100000000000) (hk9 : k ≤ 1000000000) (hi : i ≤ next) (hnx : next ≤ s.size) (hs : s.size ≤ 1000000) :
    Calls Tryz.prog 32 #[.pointer (some ⟨P, 0, none⟩), .int .i64 i, .int .i64 next] w fun e w' => e = .returned (.int .i64 (closeL t s.data.toList st i next).2) ∧ StAt w' B0 P s av tv (closeL t s.data.toList st i next).1 ∧ Below B0 w w' := by
  obtain ⟨items, opens⟩ := st
  have hlen : items.length ≤ k := hp.len
  have hw : itsW items ≤ k * W := hp.wt
  rcases List.eq_nil_or_concat opens with rfl | ⟨os, o, rfl⟩
  · refine (close_empty B0 P s av tv items i next w hP0 h (by omega)).mono ?_
    rintro e w' ⟨rfl, h1, h2⟩
    exact ⟨rfl, h1, h2⟩
  · rw [List.concat_eq_append] at *
    rw [close_some]
    obtain ⟨a, f, image, shut⟩ := o
    have ho := hp.opn ⟨a, f, image, shut⟩ (by simp)
    have hol : (os ++ [(⟨a, f, image, shut⟩ : Opn)]).length ≤ k := hp.olen
    rw [List.length_append] at hol
    exact close_pop B0 P s av tv t ts items os a f image shut i next w hL hP0 h hl ho.2 hi hnx hs ho.1 (by omega) (by omega) (by omega) hp.zero hp.nest

set_option maxHeartbeats 8000000 in
theorem tk_shut {W k : Nat} (B0 P : Nat) (s : ByteArray) (av tv : Value) (t : Option (List DefL)) (ts : List AtomT) (st : PSt) (i next : Nat) (w : World)
    (hL : Low B0 w tv av t ts) (hP0 : B0 ≤ P) (h : StAt w B0 P s av tv st) (hl : ∀ ds, t = some ds → ds.length ≤ 1000000000)
    (hp : PInv W k i st) (hk : 2 * (k * W) + k ≤ 100000000000) (hk9 : k ≤ 1000000000) (hi : i ≤ next) (hnx : next ≤ s.size) (hs : s.size ≤ 1000000) (hW : s.size + 100 ≤ W) :
    Calls Tryz.prog 19 #[.pointer (some ⟨P, 0, none⟩), (Tok.mark [93]).val, .int .i64 i, .int .i64 next] w fun e w' => e = .returned (.int .i64 ((next + (closeL t s.data.toList st i next).2 : Nat) : Int)) ∧ StAt w' B0 P s av tv (closeL t s.data.toList st i next).1 ∧ Below B0 w w' := by
  have hs0 := st_size hP0 h
  have hr := (close_inv t s.data.toList next hp (by rw [← Lib.size_eq]; exact hW)).2
  rw [← Lib.size_eq] at hr
  have HC := Lib.hid (fun W' (hL' : Low B0 W' tv av t ts) (h' : StAt W' B0 P s av tv st) => close_any B0 P s av tv t ts st i next W' hL' hP0 h' hl hp hk hk9 hi hnx hs)
  obtain ⟨st', r, hcl⟩ : ∃ a b, closeL t s.data.toList st i next = (a, b) := ⟨_, _, rfl⟩
  rw [hcl] at hr ⊢
  have HCL := Lib.hid hcl
  have hb1 : Below w.heap.size w (w.alloc (.cells #[.string ⟨#[]⟩, .string ⟨#[]⟩] 79)) := (Below.refl _ w).alloc (Nat.le_refl _) _
  have hb2 := hb1.alloc hb1.size (.cells #[.bool false] 83)
  have hb3 := hb2.alloc hb2.size (.cells #[.int .i64 0] 86)
  have HX := Lib.hid (And.intro hb3 (And.intro h hL))
  have q1 := tb_Mark_Word
  have q2 := tb_Mark_Code
  have q3 := tb_Mark_Tag
  have q4 := tb_Mark_Auto
  have q5 := tb_Mark_Break
  have q6 := tb_Mark_Atom
  have q7 := tb_Mark_Run
  have q8 := tb_Mark_Mark
  simp only at hr
  clear h hb1 hb2 hb3 hL hcl hp
  show Calls Tryz.prog _ #[_, .iface 97 (.agg #[.string ⟨#[93]⟩]), _, _] w _
  go_enter Tryz.func19, Tryz.ntmps19
  go_wp2_with fail
  go_quiet (fail)
  obtain ⟨hb3, h, hL⟩ := HX.out
  have hb4 := below_drewsN hb3 nq
  obtain ⟨W0, hW0⟩ : ∃ W, (((w.alloc (.cells #[.string ⟨#[]⟩, .string ⟨#[]⟩] 79)).alloc (.cells #[.bool false] 83)).alloc (.cells #[.int .i64 0] 86)).drewN nq = W := ⟨_, rfl⟩
  rw [hW0] at hb4 ⊢
  have hb4b := hb4.alloc hb4.size (.cells #[.int .u8 0, .int .i64 0] 89)
  have hb5 := hb4b.alloc hb4b.size (.cells #[.string ⟨#[93]⟩] 97)
  have HB5 := Lib.hid hb5
  clear hW0 hb3 hb4 hb4b hb5 h hL
  go_wp2_with fail
  refine (HC.out _ (HX.out.2.2.step (HB5.out.mono hs0)) (HX.out.2.1.below HB5.out)).mono ?_
  rw [HCL.out]
  rintro e wb ⟨rfl, sb, bb⟩
  go_wp2_with fail
  go_ret
  exact ⟨by congr 2, sb, (HB5.out.mono hs0).trans bb⟩

/-- What a parser's token call does, for whatever token. -/
def TokenDoes (B0 P : Nat) (s : ByteArray) (av tv : Value) (t : Option (List DefL)) (ts : List AtomT) (Pf : List UInt8 → List Inl) (st : PSt) (tk : Tok) (i next : Nat) (w : World) : Prop :=
  Calls Tryz.prog 19 #[.pointer (some ⟨P, 0, none⟩), tk.val, .int .i64 i, .int .i64 next] w fun e w' => e = .returned (.int .i64 (tokenL t s.data.toList ts Pf st tk i next).2) ∧ StAt w' B0 P s av tv (tokenL t s.data.toList ts Pf st tk i next).1 ∧ Below B0 w w'

theorem token_any {W k : Nat} (B0 P : Nat) (s : ByteArray) (av tv : Value) (t : Option (List DefL)) (ts : List AtomT) (Pf : List UInt8 → List Inl) (st : PSt) (i : Nat) (w : World)
    (hL : Low B0 w tv av t ts) (hP0 : B0 ≤ P) (h : StAt w B0 P s av tv st) (hl : ∀ ds, t = some ds → ds.length ≤ 1000000000) (hT : ∀ a ∈ ts, a.text.length ≤ 1000000)
    (hp : PInv W k i st) (hk : 2 * (k * W) + k ≤ 100000000000) (hk9 : k ≤ 1000000000) (hi : i < s.size) (hs : s.size ≤ 100000) (hW : s.size + 100 ≤ W)
    (hat : ∀ n a, ts[n]? = some a → TokenDoes B0 P s av tv t ts Pf st (.atom n) i (i + (nextL (s.data.toList.drop i)).2) w) :
    TokenDoes B0 P s av tv t ts Pf st (nextL (s.data.toList.drop i)).1 i (i + (nextL (s.data.toList.drop i)).2) w := by
  obtain ⟨tk, n, hn⟩ : ∃ a b, nextL (s.data.toList.drop i) = (a, b) := ⟨_, _, rfl⟩
  have hok := next_ok (s.data.toList.drop i)
  have hdl : (s.data.toList.drop i).length = s.size - i := by rw [List.length_drop, ← Lib.size_eq]
  rw [hn] at hat hok ⊢
  simp only at hat hok ⊢
  have hlen : st.items.length ≤ 1000000000 := Nat.le_trans hp.len hk9
  have holen : st.opens.length ≤ 1000000000 := Nat.le_trans hp.olen hk9
  unfold TokenDoes
  cases tk with
  | word l => exact tk_word B0 P s av tv l st i _ w hP0 h hlen
  | code l =>
    have h1 : l.length ≤ (s.data.toList.drop i).length + 4 := hok.1
    exact tk_code B0 P s av tv t ts l st i _ w hL hP0 h hlen (by omega) hT
  | tag l => exact tk_tag B0 P s av tv l st i _ w hP0 h hlen
  | auto u x => exact tk_auto B0 P s av tv u x st i _ w hP0 h hlen
  | brk b => exact tk_brk B0 P s av tv b st i _ w hP0 h hlen
  | atom m =>
    rcases Nat.lt_or_ge m ts.length with hm | hm
    · exact hat m ts[m] (List.getElem?_eq_getElem hm)
    · have e : tokenL t s.data.toList ts Pf st (.atom m) i (i + n) = (st, i + n) := by unfold tokenL; simp only; rw [List.getElem?_eq_none hm]
      rw [e]
      exact tk_atom_none B0 P s av tv t ts m st i _ w hL hP0 h hm
  | run c m => exact tk_run B0 P s av tv t ts c m st i _ w hL hP0 h hlen (by omega)
  | mark l =>
    rcases mkNext hn with ⟨rfl, rfl, hl2⟩ | ⟨rfl, hl1, rfl | rfl⟩
    · exact tk_img B0 P s av tv st i _ w hP0 h hlen holen
    · exact tk_bra B0 P s av tv st i _ w hP0 h hlen holen
    · have e : tokenL t s.data.toList ts Pf st (.mark [93]) i (i + 1) = ((closeL t s.data.toList st i (i + 1)).1, i + 1 + (closeL t s.data.toList st i (i + 1)).2) := by unfold tokenL; rfl
      rw [e]
      exact tk_shut B0 P s av tv t ts st i (i + 1) w hL hP0 h hl hp hk hk9 (by omega) (by omega) (by omega) hW

end Go.Proofs.YtahljcbmckldhaaGreatDoor

/-
  inline.Parse in plain lists: what stays bounded, from its first token to its last one.
-/
namespace Go.Proofs.YtahljcbmckldhaaGreatDoor
open Go.RowKit
set_option maxRecDepth 100000
set_option linter.unusedVariables false
set_option linter.unusedSimpArgs false

theorem tokOk_mono {a b : Nat} {t : Tok} (h : TokOk a t) (hab : a ≤ b) : TokOk b t := ⟨Nat.le_trans h.1 hab, h.2⟩
/-- One token more. -/
theorem step_inv {S T A k i : Nat} {st : PSt} (t : Option (List DefL)) (s : List UInt8) (ts : List AtomT) (P : List UInt8 → List Inl) (hs : s.length ≤ S) (hts : ∀ a ∈ ts, a.text.length ≤ T ∧ a.label.length ≤ T) (hP : ∀ a ∈ ts, wtL (P a.text) ≤ A ∧ Nest (P a.text))
    (h : PInv (tokB S T A) k i st) :
    PInv (tokB S T A) (k + 1) (i + (nextL (s.drop i)).2) (tokenL t s ts P st (nextL (s.drop i)).1 i (i + (nextL (s.drop i)).2)).1 :=
  (token_inv t s ts P hs hts hP _ _ (Nat.le_add_right _ _) (tokOk_mono (next_ok (s.drop i)) (by rw [List.length_drop]; omega)) h).1

theorem parseGo_inv {S T A : Nat} (t : Option (List DefL)) (s : List UInt8) (ts : List AtomT) (P : List UInt8 → List Inl) (hs : s.length ≤ S) (hts : ∀ a ∈ ts, a.text.length ≤ T ∧ a.label.length ≤ T) (hP : ∀ a ∈ ts, wtL (P a.text) ≤ A ∧ Nest (P a.text)) :
    ∀ (f k i : Nat) (st : PSt), PInv (tokB S T A) k i st → k ≤ i → k ≤ s.length → ∃ k' i', PInv (tokB S T A) k' i' (parseGo f t s ts P st i) ∧ k' ≤ s.length
  | 0, k, i, st, h, _, hk => ⟨k, i, h, hk⟩
  | f + 1, k, i, st, h, hki, hk => by
    rw [parseGo]
    split
    · exact ⟨k, i, h, hk⟩
    · rename_i hlt
      have hne : s.drop i ≠ [] := by intro h0; have := congrArg List.length h0; simp at this; omega
      have h1 := (next_le (s.drop i) hne).1
      have h2 := token_next t s ts P st (nextL (s.drop i)).1 i (i + (nextL (s.drop i)).2)
      exact parseGo_inv t s ts P hs hts hP f (k + 1) _ _ ((step_inv t s ts P hs hts hP h).later h2) (by omega) (by omega)

theorem parse_items {S T A : Nat} (t : Option (List DefL)) (s : List UInt8) (ts : List AtomT) (P : List UInt8 → List Inl) (hs : s.length ≤ S) (hts : ∀ a ∈ ts, a.text.length ≤ T ∧ a.label.length ≤ T) (hP : ∀ a ∈ ts, wtL (P a.text) ≤ A ∧ Nest (P a.text)) :
    itsW (parseFrom t s ts P ⟨[], []⟩ 0).items ≤ s.length * tokB S T A := by
  obtain ⟨k, i, h, hk⟩ := parseGo_inv t s ts P hs hts hP (s.length + 1) 0 0 ⟨[], []⟩ (PInv.start _) (Nat.le_refl _) (Nat.zero_le _)
  exact Nat.le_trans h.wt (Nat.mul_le_mul_right _ hk)
theorem parse_wt {S T A : Nat} (t : Option (List DefL)) (s : List UInt8) (ts : List AtomT) (P : List UInt8 → List Inl) (hs : s.length ≤ S) (hts : ∀ a ∈ ts, a.text.length ≤ T ∧ a.label.length ≤ T) (hP : ∀ a ∈ ts, wtL (P a.text) ≤ A ∧ Nest (P a.text)) :
    wtL (parseWith t s ts P) ≤ s.length * tokB S T A := by
  rw [parse_from]
  exact Nat.le_trans (group_wt _) (parse_items t s ts P hs hts hP)
theorem parse0_wt (t : Option (List DefL)) (s : List UInt8) : wtL (parse0 t s) ≤ s.length * tokB s.length 0 0 :=
  parse_wt t s [] _ (Nat.le_refl _) (fun a ha => by cases ha) (fun a ha => by cases ha)

end Go.Proofs.YtahljcbmckldhaaGreatDoor

/-
  inline.Parse: what stands in a text.
-/
namespace Go.Proofs.YtahljcbmckldhaaGreatDoor
open Go.RowKit
set_option maxRecDepth 100000
set_option linter.unusedVariables false
set_option linter.unusedSimpArgs false

theorem tab_ptr {w : World} {tv : Value} {t : Option (List DefL)} (h : TabAt w tv t) : ∃ pa, tv = .pointer pa := by
  cases t with
  | none => exact ⟨none, h⟩
  | some ds => obtain ⟨b, sv, h1, _⟩ := h; exact ⟨_, h1⟩

set_option maxHeartbeats 8000000 in
theorem parse_any {S T A : Nat} (s : ByteArray) (av tv : Value) (t : Option (List DefL)) (ts : List AtomT) (Pf : List UInt8 → List Inl) (w : World) (hE : Env w) (hT : TabAt w tv t) (hA : AtomsAt w av ts) (hl : ∀ ds, t = some ds → ds.length ≤ 1000000000)
    (hS : s.size ≤ S) (hts : ∀ a ∈ ts, a.text.length ≤ T ∧ a.label.length ≤ T) (hP : ∀ a ∈ ts, wtL (Pf a.text) ≤ A ∧ Nest (Pf a.text)) (hS9 : S ≤ 100000) (hT9 : T ≤ 1000000) (hbig : 2 * (S * tokB S T A) + S ≤ 100000000000)
    (hat : ∀ (B0 P : Nat) (st : PSt) (i next n : Nat) (a : AtomT) (w' : World), ts[n]? = some a → Low B0 w' tv av t ts → B0 ≤ P → StAt w' B0 P s av tv st → st.items.length ≤ 1000000000 → TokenDoes B0 P s av tv t ts Pf st (.atom n) i next w') :
    Calls Tryz.prog 13 #[.string s, av, tv] w fun e w' => ∃ v', e = .returned v' ∧ InlsAt w' v' (parseWith t s.data.toList ts Pf) ∧ Below w.heap.size w w' := by
  have hL0 := Low.mk' hE hT hA
  obtain ⟨pa, rfl⟩ := tab_ptr hT
  obtain ⟨ao, c, rfl, _⟩ := hA
  have hW : s.size + 100 ≤ tokB S T A := by
    have h1 : S + 4 ≤ (S + 4) * (T + 1) := Nat.le_mul_of_pos_right _ (by omega)
    unfold tokB; omega
  have hSl : s.data.toList.length ≤ S := by rw [← Lib.size_eq]; exact hS
  obtain ⟨F, hF⟩ : ∃ F, parseFrom t s.data.toList ts Pf ⟨[], []⟩ 0 = F := ⟨_, rfl⟩
  rw [parse_from, hF]
  have hFw : itsW F.items ≤ S * tokB S T A := by
    rw [← hF]
    exact Nat.le_trans (parse_items t _ ts Pf hSl hts hP) (Nat.mul_le_mul_right _ hSl)
  have hkW : ∀ k, k ≤ s.size → 2 * (k * tokB S T A) + k ≤ 100000000000 := fun k hk => by
    have := Nat.mul_le_mul_right (tokB S T A) (Nat.le_trans hk hS)
    omega
  obtain ⟨W, hWW⟩ : ∃ W, tokB S T A = W := ⟨_, rfl⟩
  have HSI := Lib.hid (fun k i st (h : PInv W k i st) => by
    have := step_inv (S := S) (T := T) (A := A) (k := k) (i := i) (st := st) t s.data.toList ts Pf hSl hts hP (by rw [hWW]; exact h)
    rw [hWW] at this
    exact this)
  rw [hWW] at hW hFw hkW
  have HL0 := Lib.hid hL0
  have HHL := Lib.hid hl
  have HF := Lib.hid hF
  have HAT := Lib.hid hat
  have HTS := Lib.hid (fun a (ha : a ∈ ts) => Nat.le_trans (hts a ha).1 hT9)
  have HKW := Lib.hid hkW
  have HFW := Lib.hid hFw
  have HW := Lib.hid hW
  clear hL0 hl hF hat hts hP hE hT hbig hWW hkW hFw hW
  go_enter Tryz.func13, Tryz.ntmps13
  go_wp2_with fail
  go_loopw [8] (fun u8 wr => ∃ (i k : Nat) (st : PSt), u8 = .int .i64 i ∧ StAt wr w.heap.size w.heap.size s (.slice ao ts.length c) (.pointer pa) st ∧ Below w.heap.size w wr ∧ PInv W k i st ∧ k ≤ i ∧ k ≤ s.size ∧ parseFrom t s.data.toList ts Pf st i = F) (fun u8 _ => s.size - (intOf u8).toNat)
  case atStart =>
    refine ⟨0, 0, ⟨[], []⟩, rfl, ⟨.slice none 0 0, .slice none 0 0, [], heap_alloc_new w _, ⟨World.ownsRow_nil _ _ _ _, fun x hx => by simp at hx⟩, rfl, World.ownsRow_nil _ _ _ _⟩, (Below.refl _ w).alloc (Nat.le_refl _) _, PInv.start W, Nat.le_refl _, Nat.zero_le _, HF.out⟩
  case round =>
    obtain ⟨i, k, st, rfl, hst, hB, hpi, hki, hks, hfr⟩ := hrel
    by_cases hlt : i < s.size
    · have hLr := HL0.out.step hB
      have hnt := next_tok s i wr hLr.here.1 hlt (by omega)
      have htk : ∀ w2, Below w.heap.size w w2 → StAt w2 w.heap.size w.heap.size s (.slice ao ts.length c) (.pointer pa) st → _ := fun w2 hB2 h2 =>
        token_any w.heap.size w.heap.size s (.slice ao ts.length c) (.pointer pa) t ts Pf st i w2 (HL0.out.step hB2) (Nat.le_refl _) h2 HHL.out HTS.out hpi (HKW.out k hks) (by omega) hlt (by omega) HW.out
          (fun n a ha => HAT.out _ _ st i _ n a w2 ha (HL0.out.step hB2) (Nat.le_refl _) h2 (Nat.le_trans hpi.len (by omega)))
      have hsi := HSI.out k i st hpi
      have hne : s.data.toList.drop i ≠ [] := by
        intro h0
        have := congrArg List.length h0
        rw [List.length_drop, ← Lib.size_eq] at this
        simp at this; omega
      have hn0 := (next_le _ hne).1
      have hnx := fun k2 n2 => token_next t s.data.toList ts Pf st k2 i n2
      have hfs := fun st' j n2 k2 => from_step t s.data.toList ts Pf st st' i j n2 k2 (by rw [← Lib.size_eq]; exact hlt)
      obtain ⟨tk, n, hn⟩ : ∃ a b, nextL (s.data.toList.drop i) = (a, b) := ⟨_, _, rfl⟩
      rw [hn] at hnt htk hsi hn0
      simp only at hnt htk hsi hn0
      obtain ⟨st', j, ht⟩ : ∃ a b, tokenL t s.data.toList ts Pf st tk i (i + n) = (a, b) := ⟨_, _, rfl⟩
      have hij := hnx tk (i + n)
      unfold TokenDoes at htk
      rw [ht] at htk hsi hij
      simp only at htk hsi hij
      have hfr2 := hfs st' j n tk hn ht
      have HNT := Lib.hid hnt
      have HTK := Lib.hid htk
      have HR := Lib.hid (And.intro (hsi.later hij) (hfr2.symm.trans hfr))
      have HST := Lib.hid hst
      clear hnt htk hsi hfr2 hfr hfs hnx hn ht hst hpi hLr hne
      go_wp2_with fail
      refine HNT.out.mono ?_
      rintro e w2 ⟨rfl, b2⟩
      have hB2 := hB.trans (b2.mono hB.size)
      have HTK2 := Lib.hid (HTK.out w2 hB2 (HST.out.below b2))
      clear HTK HNT b2 HST
      go_wp2_with fail
      refine HTK2.out.mono ?_
      rintro e w3 ⟨rfl, s3, b3⟩
      have hB3 := hB2.trans b3
      go_wp2_with fail
      go_roundw
      case rel => exact ⟨j, k + 1, st', rfl, s3, hB3, HR.out.1, by omega, by omega, HR.out.2⟩
      case measure => simp [intOf]; omega
    · have hF1 : st = F := by rw [← hfr, from_end _ _ _ _ _ _ (by rw [← Lib.size_eq]; omega)]
      subst hF1
      obtain ⟨iao, ic, oao, oc, its, hV⟩ := hst.vals
      obtain ⟨_, _, _, p3, _⟩ := ParAt.cells hV.par
      have hO := hV.it.1
      have hks2 := hpi.len
      have hgb : GB 100000000000 (piecesOf (itemsV its)) := by
        rw [hV.itv]
        refine gb_of ?_ hpi.zero hpi.nest
        have h1 := hpi.wt
        have h2 := HKW.out k hks
        omega
      have hg := group_any iao ic its wr (own_rowR hO).2.1 hV.it.2 hgb
      rw [hV.len, hV.itv] at hg
      have HG := Lib.hid hg
      clear hg hgb hO hV hst hpi hfr
      go_wp2_with fail
      refine HG.out.mono ?_
      rintro e w2 ⟨v', rfl, hI, b2⟩
      have hB2 := hB.trans (b2.mono hB.size)
      go_wp2_with fail
      go_ret
      exact ⟨v', rfl, hI, hB2⟩

/-- A text that knows of no atoms. -/
theorem parse0_any (s : ByteArray) (tv : Value) (t : Option (List DefL)) (w : World) (hE : Env w) (hT : TabAt w tv t) (hl : ∀ ds, t = some ds → ds.length ≤ 1000000000) (hS : s.size ≤ 100000) :
    Calls Tryz.prog 13 #[.string s, .slice none 0 0, tv] w fun e w' => ∃ v', e = .returned v' ∧ InlsAt w' v' (parse0 t s.data.toList) ∧ Below w.heap.size w w' := by
  refine parse_any (S := 100000) (T := 0) (A := 0) s (.slice none 0 0) tv t [] (fun _ => []) w hE hT (AtomsAt.nil w) hl hS (fun a ha => by cases ha) (fun a ha => by cases ha) (by omega) (by omega) (by unfold tokB; omega) ?_
  intro B0 P st i next n a w' ha
  simp at ha

set_option maxHeartbeats 4000000 in
theorem raw_any (s : ByteArray) (w : World) (hE : Env w) (hS : s.size ≤ 100000) :
    Calls Tryz.prog 11 #[.string s] w fun e w' => ∃ v', e = .returned v' ∧ InlsAt w' v' (parse0 none s.data.toList) ∧ Below w.heap.size w w' := by
  have hp := parse0_any s (.pointer none) none w hE rfl (fun ds h => by cases h) hS
  have HP := Lib.hid hp
  clear hp hE
  go_enter Tryz.func11, Tryz.ntmps11
  go_wp2_with fail
  refine HP.out.mono ?_
  rintro e w2 ⟨v', rfl, hI, b2⟩
  go_wp2_with fail
  go_ret
  exact ⟨v', rfl, hI, b2⟩

end Go.Proofs.YtahljcbmckldhaaGreatDoor

/-
  bowdlerlaw15.alive: the first call whose answer the document fixes; nodes that were handed back, cell by cell.
-/
namespace Go.Proofs.YtahljcbmckldhaaGreatDoor
open Go.RowKit
set_option maxRecDepth 100000
set_option linter.unusedVariables false
set_option linter.unusedSimpArgs false

/-- The five cells of a node. -/
def NodeAt (w : World) (g k : Nat) (K D : Int) (T U Z : ByteArray) : Prop :=
  w.cell? ⟨g, k * 5, none⟩ = some (.int .i64 K) ∧ w.cell? ⟨g, k * 5 + 1, none⟩ = some (.int .i64 D) ∧ w.cell? ⟨g, k * 5 + 2, none⟩ = some (.string T) ∧ w.cell? ⟨g, k * 5 + 3, none⟩ = some (.string U) ∧ w.cell? ⟨g, k * 5 + 4, none⟩ = some (.string Z)
theorem inls_at {w : World} {v : Value} {l : List Inl} (h : InlsAt w v l) (h0 : 0 < l.length) :
    ∃ g cap, v = .slice (some ⟨g, 0, none⟩) l.length cap ∧ g < w.heap.size ∧ ∀ k x, l[k]? = some x → NodeAt w g k (x.kind : Int) (x.depth : Int) ⟨x.text.toArray⟩ ⟨x.url.toArray⟩ ⟨x.title.toArray⟩ := by
  obtain ⟨ao, c, rfl, hR, _⟩ := own_slice h
  obtain ⟨g, cur, rfl, _, _, hg, _⟩ := own_form h h0
  refine ⟨g, c, rfl, hg, fun k x hk => ?_⟩
  have := RowR.inl hR k x hk
  simp only [Nat.zero_add] at this
  exact this
theorem NodeAt.below {w w' : World} {g k n : Nat} {K D : Int} {T U Z : ByteArray} (h : NodeAt w g k K D T U Z) (hb : Below n w w') (hg : g < n) : NodeAt w' g k K D T U Z := by
  obtain ⟨h0, h1, h2, h3, h4⟩ := h
  exact ⟨(hb.cell (p := ⟨g, k * 5, none⟩) hg).trans h0, (hb.cell (p := ⟨g, k * 5 + 1, none⟩) hg).trans h1, (hb.cell (p := ⟨g, k * 5 + 2, none⟩) hg).trans h2, (hb.cell (p := ⟨g, k * 5 + 3, none⟩) hg).trans h3, (hb.cell (p := ⟨g, k * 5 + 4, none⟩) hg).trans h4⟩

theorem alive_nodes : parse0 none [91, 42, 97, 42, 93, 40, 47, 98, 41] = [⟨5, 0, [], [47, 98], []⟩, ⟨3, 1, [], [], []⟩, ⟨1, 2, [97], [], []⟩] := by decide +kernel

set_option maxHeartbeats 4000000 in
theorem alive15 (w : World) (hE : Env w) : Calls Tryz.prog 10 #[] w fun e w' => e = .returned (.bool true) ∧ Below w.heap.size w w' := by
  have c1 : Calls Tryz.prog 11 #[.string ⟨#[91, 42, 97, 42, 93, 40, 47, 98, 41]⟩] w fun e w' => ∃ g cap, e = .returned (.slice (some ⟨g, 0, none⟩) 3 cap) ∧
      ((w'.cell? ⟨g, 0, none⟩ = some (.int .i64 5) ∧ w'.cell? ⟨g, 1, none⟩ = some (.int .i64 0) ∧ w'.cell? ⟨g, 2, none⟩ = some (.string ⟨#[]⟩) ∧ w'.cell? ⟨g, 3, none⟩ = some (.string ⟨#[47, 98]⟩) ∧ w'.cell? ⟨g, 4, none⟩ = some (.string ⟨#[]⟩)) ∧
       (w'.cell? ⟨g, 5, none⟩ = some (.int .i64 3) ∧ w'.cell? ⟨g, 6, none⟩ = some (.int .i64 1) ∧ w'.cell? ⟨g, 7, none⟩ = some (.string ⟨#[]⟩) ∧ w'.cell? ⟨g, 8, none⟩ = some (.string ⟨#[]⟩) ∧ w'.cell? ⟨g, 9, none⟩ = some (.string ⟨#[]⟩)) ∧
       (w'.cell? ⟨g, 10, none⟩ = some (.int .i64 1) ∧ w'.cell? ⟨g, 11, none⟩ = some (.int .i64 2) ∧ w'.cell? ⟨g, 12, none⟩ = some (.string ⟨#[97]⟩) ∧ w'.cell? ⟨g, 13, none⟩ = some (.string ⟨#[]⟩) ∧ w'.cell? ⟨g, 14, none⟩ = some (.string ⟨#[]⟩))) ∧ Below w.heap.size w w' := by
    refine (raw_any ⟨#[91, 42, 97, 42, 93, 40, 47, 98, 41]⟩ w hE (by decide)).mono ?_
    rintro e w' ⟨v, rfl, hI, hb⟩
    rw [show (ByteArray.mk #[91, 42, 97, 42, 93, 40, 47, 98, 41]).data.toList = [91, 42, 97, 42, 93, 40, 47, 98, 41] from rfl, alive_nodes] at hI
    obtain ⟨g, cap, rfl, hg, hc⟩ := inls_at hI (by decide)
    exact ⟨g, cap, rfl, ⟨hc 0 _ rfl, hc 1 _ rfl, hc 2 _ rfl⟩, hb⟩
  have C1 := Lib.hid c1
  clear c1 hE
  go_enter Tryz.func10, Tryz.ntmps10
  go_wp2_with fail
  refine C1.out.mono ?_
  rintro e w1 ⟨g, cap, rfl, ⟨⟨a0, a1, a2, a3, a4⟩, ⟨b0, b1, b2, b3, b4⟩, ⟨d0, d1, d2, d3, d4⟩⟩, hb⟩
  go_wp2_with fail
  go_ret
  exact ⟨rfl, hb⟩

end Go.Proofs.YtahljcbmckldhaaGreatDoor

/-
  InlineNames, InlineShut, InlineCodes: what Parse makes of their texts. Plain facts.
-/
namespace Go.Proofs.YtahljcbmckldhaaGreatDoor
open Go.RowKit
set_option linter.unusedVariables false
set_option linter.unusedSimpArgs false

/-! ### InlineNames -/
def upName (c : UInt8) (r : List UInt8) : List UInt8 := (c - 32) :: r
theorem up_facts : ∀ c : UInt8, 97 ≤ c.toNat ∧ c.toNat ≤ 122 → (c - 32).toNat = c.toNat - 32 ∧ specialL.contains (c - 32) = false ∧ (c - 32) ≠ 94 ∧ (c - 32) ≠ 35 ∧ Lib.encodeRune (((c - 32).toNat : Int) + 32) = [c] ∧ inSps ((c - 32).toNat : Int) spaceSps = false ∧ inSps ((c - 32).toNat : Int) upSps = true ∧ badSigns.any (fun b => b.toNat == (c - 32).toNat) = false :=
  fun c => allB (p := fun c => 97 ≤ c.toNat ∧ c.toNat ≤ 122 → (c - 32).toNat = c.toNat - 32 ∧ specialL.contains (c - 32) = false ∧ (c - 32) ≠ 94 ∧ (c - 32) ≠ 35 ∧ Lib.encodeRune (((c - 32).toNat : Int) + 32) = [c] ∧ inSps ((c - 32).toNat : Int) spaceSps = false ∧ inSps ((c - 32).toNat : Int) upSps = true ∧ badSigns.any (fun b => b.toNat == (c - 32).toNat) = false) (by unfold AllB; decide +kernel) c
theorem name_up (c : UInt8) (r : List UInt8) (h : Letters (c :: r)) (hl : r.length < 60) : nameL (upName c r) = (c :: r, true) ∧ fold (upName c r) = c :: r := by
  obtain ⟨f1, f2, f3, f4, f5, f6, f7, f8⟩ := up_facts c h.head
  have hd : Lib.decodeL (upName c r) = ((c - 32).toNat, 1) := Lib.decodeL_ascii (c - 32) r (by have := h.head; omega)
  have hf : fold (upName c r) = c :: r := by
    unfold fold
    show foldGo (r.length + 1) _ _ _ = _
    rw [foldGo, if_neg (by simp [upName]), hd]
    simp only
    rw [f6, f7, f5]
    simp only [Bool.false_eq_true, if_false, Bool.false_and, if_true]
    show foldGo r.length r false _ = _
    rw [foldGo_letters r _ _ h.tail (Nat.le_refl _)]
    rfl
  refine ⟨?_, hf⟩
  unfold nameL
  have hb : hasBad (upName c r).length (upName c r) = false := by
    show hasBad (r.length + 1) _ = _
    rw [hasBad, if_neg (by simp [upName]), hd]
    simp only
    rw [f8]
    show (false || hasBad r.length r) = false
    rw [hasBad_letters r _ h.tail]; rfl
  rw [hb, hf, if_neg (by simp), if_neg (by rintro (e | e); simp at e; simp at e; omega)]

def urlDef (name : List UInt8) : DefL := ⟨name, [47, 117], [116], [], false⟩
def urlTab (name : List UInt8) (known : Bool) : List DefL := if known then [urlDef name] else []
theorem find_url (name x : List UInt8) (h : nameL x = (name, true)) : findL (some (urlTab name true)) x false = (urlDef name, true) := by
  unfold findL
  simp only
  rw [h, if_neg (by simp)]
  simp [urlTab, lookL, urlDef]
theorem find_empty (x : List UInt8) (b : Bool) : findL (some []) x b = (DefL.none, false) := by
  unfold findL
  simp only
  split
  · rfl
  · rfl
theorem asked_no (t : Option (List DefL)) (x : List UInt8) (h1 : x.head? ≠ some 94) (h2 : x.head? ≠ some 35) : askedL t x = (noInl, false) := by
  unfold askedL
  rw [preAt_no 94 x h1, if_neg (by simp), preAt_no 35 x h2, if_pos (Or.inl rfl)]
theorem cut93 (x c : List UInt8) (h : (93 : UInt8) ∉ x) : cutAt 93 (x ++ 93 :: c) = (x, c, true) := cut_hit 93 x c h
theorem behind_none (x b : List UInt8) (h : b.head? ≠ some 91) : nameBehind x b = (x, 0) := by
  unfold nameBehind
  rw [preAt_no 91 b h, if_neg (by simp)]
theorem behind_empty (x c : List UInt8) : nameBehind x (91 :: 93 :: c) = (x, 2) := by
  unfold nameBehind
  rw [preAt_yes, show ((93 :: c, true) : List UInt8 × Bool).1 = [] ++ 93 :: c from rfl, cut93 [] c (by simp), if_pos ⟨rfl, rfl, rfl⟩]
  simp [fold, foldGo]
theorem behind_name (x y c : List UInt8) (hy : (93 : UInt8) ∉ y) (hb : y.any (fun c => c == 91 || c == 0) = false) (hf : fold y ≠ []) : nameBehind x (91 :: (y ++ 93 :: c)) = (y, y.length + 2) := by
  unfold nameBehind
  rw [preAt_yes, show ((y ++ 93 :: c, true) : List UInt8 × Bool).1 = y ++ 93 :: c from rfl, cut93 y c hy, if_pos ⟨rfl, rfl, hb⟩, if_pos hf]
theorem link_of (t : Option (List DefL)) (x b : List UInt8) (h : b.head? ≠ some 40) : inlLinkL t x b = (⟨5, 0, [], (findL t (nameBehind x b).1 false).1.url, (findL t (nameBehind x b).1 false).1.title⟩, (nameBehind x b).2, (findL t (nameBehind x b).1 false).2) := by
  unfold inlLinkL
  rw [inside_no b h, if_neg (by simp)]

theorem link_node (y : Inl) (ws : List UInt8) (h : ws ≠ []) (hk : y.kind = 5) : groupL [⟨0, 0, false, false, withinL y (groupL [⟨0, 0, false, false, [wordsI ws]⟩])⟩] = [y, ⟨1, 1, ws, [], []⟩] := by
  have h1 : groupL [⟨0, 0, false, false, [wordsI ws]⟩] = [wordsI ws] := by
    have := group_words [ws] (by simpa using h)
    simpa using this
  rw [h1, group_plain _ (fun x hx => by simp at hx; rw [hx])]
  show mergeL [y, ⟨1, 1, ws, [], []⟩] = _
  refine merge_apart (show Apart [y, ⟨1, 1, ws, [], []⟩] from ⟨(fun hh => by rw [hk] at hh; cases hh), (fun hh => by rw [hk] at hh; exact absurd hh.1 (by decide)), fun _ => h⟩) ?_
  intro x hx
  simp at hx
  rcases hx with rfl | rfl
  · intro hh; rw [hk] at hh; cases hh
  · intro _; exact ⟨rfl, rfl⟩

theorem run_close (t : Option (List DefL)) (ts : List AtomT) (P : List UInt8 → List Inl) (a x b c : List UInt8) (items : List IItem) (os : List Opn) (k : Nat) (st' : PSt)
    (h : closeOpen t (a ++ (x ++ ([93] ++ (b ++ c)))) ⟨items, os⟩ ⟨k, a.length, false, false⟩ (a ++ x).length ((a ++ x).length + 1) = (st', b.length)) :
    parseFrom t (a ++ (x ++ ([93] ++ (b ++ c)))) ts P ⟨items, os ++ [⟨k, a.length, false, false⟩]⟩ (a ++ x).length = parseFrom t (a ++ (x ++ ([93] ++ (b ++ c)))) ts P st' (a ++ x ++ ([93] ++ b)).length :=
  run_shut t ts P _ _ (a ++ x) b c st' (by simp) (by rw [close_some]; exact h)
theorem mid_eq (a x c : List UInt8) : ((a ++ (x ++ c)).take (a ++ x).length).drop a.length = x := take_mid a x c _ rfl
theorem drop_behind (a x c : List UInt8) : (a ++ (x ++ ([93] ++ c))).drop ((a ++ x).length + 1) = c := by
  rw [show a ++ (x ++ ([93] ++ c)) = (a ++ x ++ [93]) ++ c by simp]
  exact List.drop_left' (by simp; omega)

def W (x : List UInt8) : IItem := ⟨0, 0, false, false, [wordsI x]⟩
theorem group_W (ws : List (List UInt8)) (h : ws.flatten ≠ []) : groupL (ws.map W) = [wordsI ws.flatten] := group_words ws h
/-- '[' x ']' where x is no name that is known: three words. -/
theorem run_unknown (ts : List AtomT) (P : List UInt8 → List Inl) (a x c : List UInt8) (items : List IItem) (hx : x ≠ []) (hp : ∀ b ∈ x, specialL.contains b = false) (h94 : x.head? ≠ some 94) (h35 : x.head? ≠ some 35) (hc : c.head? ≠ some 40) :
    parseFrom (some []) (a ++ ([91] ++ (x ++ ([93] ++ c)))) ts P ⟨items, []⟩ a.length = parseFrom (some []) (a ++ ([91] ++ (x ++ ([93] ++ c)))) ts P ⟨items ++ [W [91], W x, W [93]], []⟩ (a ++ ([91] ++ (x ++ [93]))).length := by
  rw [run_open _ _ _ _ _ a (x ++ ([93] ++ c)) rfl]
  rw [run_word _ _ _ _ _ (a ++ [91]) x ([93] ++ c) (by simp) hx hp (Or.inr ⟨93, c, rfl, spec93⟩)]
  have hs : a ++ ([91] ++ (x ++ ([93] ++ c))) = (a ++ [91]) ++ (x ++ ([93] ++ ([] ++ c))) := by simp
  have hl : (a ++ [91]).length = a.length + 1 := by simp
  rw [hs, ← hl]
  simp only [PSt.put]
  rw [run_close (some []) ts P (a ++ [91]) x [] c _ [] _ _ (close_word (mid_eq (a ++ [91]) x _) (drop_behind (a ++ [91]) x _) (by rw [asked_no _ x h94 h35]) (by rw [link_of _ _ _ (by simpa using hc), find_empty]))]
  congr 1
  · simp [PSt.put, W]
  · simp
theorem run_unknown0 (ts : List AtomT) (P : List UInt8 → List Inl) (a c : List UInt8) (items : List IItem) (hc : c.head? ≠ some 40) :
    parseFrom (some []) (a ++ ([91] ++ ([93] ++ c))) ts P ⟨items, []⟩ a.length = parseFrom (some []) (a ++ ([91] ++ ([93] ++ c))) ts P ⟨items ++ [W [91], W [93]], []⟩ (a ++ ([91] ++ [93])).length := by
  rw [run_open _ _ _ _ _ a ([93] ++ c) rfl]
  have hs : a ++ ([91] ++ ([93] ++ c)) = (a ++ [91]) ++ ([] ++ ([93] ++ ([] ++ c))) := by simp
  have hl : (a ++ [91]).length = a.length + 1 := by simp
  rw [hs, ← hl]
  have := run_close (some []) ts P (a ++ [91]) [] [] c (items ++ [⟨0, 0, false, false, [wordsI [91]]⟩]) [] items.length _ (close_word (mid_eq (a ++ [91]) [] _) (drop_behind (a ++ [91]) [] _) (by rw [asked_no _ [] (by simp) (by simp)]) (by rw [link_of _ _ _ (by simpa using hc), find_empty]))
  simp only [List.append_nil, PSt.put] at this ⊢
  rw [this]
  congr 1
  · simp [PSt.put, W]
  · simp

def namesText (up text : List UInt8) (form : Nat) : List UInt8 :=
  if form = 1 then [91] ++ (up ++ [93, 91, 93]) else if form = 2 then [91] ++ (text ++ ([93] ++ ([91] ++ (up ++ [93])))) else [91] ++ (up ++ [93])

theorem names_unknown (c : UInt8) (r text : List UInt8) (form : Nat) (h : Letters (c :: r)) (ht : Letters text) (ht0 : text ≠ []) :
    parse0 (some []) (namesText (upName c r) text form) = [wordsI (namesText (upName c r) text form)] := by
  obtain ⟨f1, f2, f3, f4, f5, f6, f7, f8⟩ := up_facts c h.head
  have hup : ∀ b ∈ upName c r, specialL.contains b = false := wordsS (c - 32) r h.tail f2
  have hu94 : (upName c r).head? ≠ some 94 := by simp [upName, f3]
  have hu35 : (upName c r).head? ≠ some 35 := by simp [upName, f4]
  have ht94 : text.head? ≠ some 94 := by
    cases text with
    | nil => simp
    | cons d l => intro e; simp at e; have := ht.head; rw [e] at this; exact absurd this (by decide)
  have ht35 : text.head? ≠ some 35 := by
    cases text with
    | nil => simp
    | cons d l => intro e; simp at e; have := ht.head; rw [e] at this; exact absurd this (by decide)
  unfold parse0
  rw [parse_from]
  unfold namesText
  split
  · rw [show [91] ++ (upName c r ++ [93, 91, 93]) = [] ++ ([91] ++ (upName c r ++ ([93] ++ [91, 93]))) by simp, show (0 : Nat) = ([] : List UInt8).length from rfl]
    rw [run_unknown [] _ [] (upName c r) [91, 93] [] (by simp [upName]) hup hu94 hu35 (by simp)]
    rw [show [] ++ ([91] ++ (upName c r ++ ([93] ++ [91, 93]))) = ([] ++ ([91] ++ (upName c r ++ [93]))) ++ ([91] ++ ([93] ++ [])) by simp]
    rw [run_unknown0 [] _ _ [] _ (by simp), from_end _ _ _ _ _ _ (by simp)]
    have := group_W [[91], upName c r, [93], [91], [93]] (by simp)
    simpa using this
  · split
    · rw [show [91] ++ (text ++ ([93] ++ ([91] ++ (upName c r ++ [93])))) = [] ++ ([91] ++ (text ++ ([93] ++ ([91] ++ (upName c r ++ [93]))))) by simp, show (0 : Nat) = ([] : List UInt8).length from rfl]
      rw [run_unknown [] _ [] text _ [] ht0 (letter_plainS ht) ht94 ht35 (by simp)]
      rw [show [] ++ ([91] ++ (text ++ ([93] ++ ([91] ++ (upName c r ++ [93]))))) = ([] ++ ([91] ++ (text ++ [93]))) ++ ([91] ++ (upName c r ++ ([93] ++ []))) by simp]
      rw [run_unknown [] _ _ (upName c r) [] _ (by simp [upName]) hup hu94 hu35 (by simp), from_end _ _ _ _ _ _ (by simp)]
      have := group_W [[91], text, [93], [91], upName c r, [93]] (by simp)
      simpa using this
    · rw [show [91] ++ (upName c r ++ [93]) = [] ++ ([91] ++ (upName c r ++ ([93] ++ []))) by simp, show (0 : Nat) = ([] : List UInt8).length from rfl]
      rw [run_unknown [] _ [] (upName c r) [] [] (by simp [upName]) hup hu94 hu35 (by simp), from_end _ _ _ _ _ _ (by simp)]
      have := group_W [[91], upName c r, [93]] (by simp)
      simpa using this

/-- '[' x ']' b, where x is a name that is known by what stands behind: a link. -/
theorem run_known (t : Option (List DefL)) (ts : List AtomT) (P : List UInt8 → List Inl) (x b c : List UInt8) (y : Inl) (hx : x ≠ []) (hp : ∀ b ∈ x, specialL.contains b = false) (h94 : x.head? ≠ some 94) (h35 : x.head? ≠ some 35) (hy : inlLinkL t x (b ++ c) = (y, b.length, true)) :
    parseFrom t ([91] ++ (x ++ ([93] ++ (b ++ c)))) ts P ⟨[], []⟩ 0 = parseFrom t ([91] ++ (x ++ ([93] ++ (b ++ c)))) ts P ⟨[⟨0, 0, false, false, withinL y (groupL [W x])⟩], []⟩ ([91] ++ x ++ ([93] ++ b)).length := by
  rw [run_one t ts P x (b ++ c) hx hp]
  exact (run_close t ts P [91] x b c [⟨0, 0, false, false, [wordsI [91]]⟩, ⟨0, 0, false, false, [wordsI x]⟩] [] 0 _ (close_link (mid_eq [91] x _) (drop_behind [91] x _) rfl rfl (by rw [asked_no _ x h94 h35]) hy)).trans rfl
theorem names_known (c : UInt8) (r text : List UInt8) (form : Nat) (h : Letters (c :: r)) (hl : r.length < 20) (ht : Letters text) (ht0 : text ≠ []) :
    parse0 (some (urlTab (c :: r) true)) (namesText (upName c r) text form) = [⟨5, 0, [], [47, 117], [116]⟩, ⟨1, 1, if form = 2 then text else upName c r, [], []⟩] := by
  obtain ⟨f1, f2, f3, f4, f5, f6, f7, f8⟩ := up_facts c h.head
  obtain ⟨hn, hfo⟩ := name_up c r h (by omega)
  have hfind := find_url (c :: r) (upName c r) hn
  have hup : ∀ b ∈ upName c r, specialL.contains b = false := wordsS (c - 32) r h.tail f2
  have hu94 : (upName c r).head? ≠ some 94 := by simp [upName, f3]
  have hu35 : (upName c r).head? ≠ some 35 := by simp [upName, f4]
  have ht94 : text.head? ≠ some 94 := by
    cases text with
    | nil => simp
    | cons d l => intro e; simp at e; have := ht.head; rw [e] at this; exact absurd this (by decide)
  have ht35 : text.head? ≠ some 35 := by
    cases text with
    | nil => simp
    | cons d l => intro e; simp at e; have := ht.head; rw [e] at this; exact absurd this (by decide)
  unfold parse0
  rw [parse_from]
  unfold namesText
  split
  · rename_i hf
    rw [if_neg (by omega)]
    rw [show [91] ++ (upName c r ++ [93, 91, 93]) = [91] ++ (upName c r ++ ([93] ++ ([91, 93] ++ []))) by simp]
    rw [run_known _ [] _ (upName c r) [91, 93] [] ⟨5, 0, [], [47, 117], [116]⟩ (by simp [upName]) hup hu94 hu35 (by
      rw [link_of _ _ _ (by simp), show [91, 93] ++ ([] : List UInt8) = 91 :: 93 :: [] from rfl, behind_empty, hfind]; rfl)]
    rw [from_end _ _ _ _ _ _ (by simp)]
    exact link_node _ _ (by simp [upName]) rfl
  · split
    · rename_i hf
      rw [show [91] ++ (text ++ ([93] ++ ([91] ++ (upName c r ++ [93])))) = [91] ++ (text ++ ([93] ++ (([91] ++ (upName c r ++ [93])) ++ []))) by simp]
      have h93 : (93 : UInt8) ∉ upName c r := fun e => by have := hup 93 e; exact absurd this (by decide)
      have hany : (upName c r).any (fun c => c == 91 || c == 0) = false := by
        rw [Bool.eq_false_iff]
        intro e
        obtain ⟨z, hz, hz2⟩ := List.any_eq_true.1 e
        have := hup z hz
        simp at hz2
        rcases hz2 with rfl | rfl <;> exact absurd this (by decide)
      rw [run_known _ [] _ text ([91] ++ (upName c r ++ [93])) [] ⟨5, 0, [], [47, 117], [116]⟩ ht0 (letter_plainS ht) ht94 ht35 (by
        rw [link_of _ _ _ (by simp), show [91] ++ (upName c r ++ [93]) ++ ([] : List UInt8) = 91 :: (upName c r ++ 93 :: []) by simp, behind_name _ _ _ h93 hany (by rw [hfo]; simp), hfind]
        simp [urlDef])]
      rw [from_end _ _ _ _ _ _ (by simp)]
      exact link_node _ _ ht0 rfl
    · rw [show [91] ++ (upName c r ++ [93]) = [91] ++ (upName c r ++ ([93] ++ ([] ++ []))) by simp]
      rw [run_known _ [] _ (upName c r) [] [] ⟨5, 0, [], [47, 117], [116]⟩ (by simp [upName]) hup hu94 hu35 (by
        rw [link_of _ _ _ (by simp), show ([] : List UInt8) ++ [] = [] from rfl, behind_none _ _ (by simp), hfind]; rfl)]
      rw [from_end _ _ _ _ _ _ (by simp)]
      exact link_node _ _ (by simp [upName]) rfl

/-! ### InlineShut -/
def linkTail (url : List UInt8) : List UInt8 := [93] ++ ((40 :: (url ++ [41])) ++ [])
def shutText (url : List UInt8) : Nat → List UInt8
  | 0 => [120]
  | k + 1 => [91] ++ (shutText url k ++ linkTail url)
def tails (url : List UInt8) : Nat → List UInt8
  | 0 => []
  | k + 1 => linkTail url ++ tails url k
theorem tails_comm (url : List UInt8) : ∀ k, tails url k ++ linkTail url = linkTail url ++ tails url k
  | 0 => by simp [tails]
  | k + 1 => by rw [tails, List.append_assoc, tails_comm url k]
theorem shut_shape (url : List UInt8) : ∀ k, shutText url k = List.replicate k 91 ++ ([120] ++ tails url k)
  | 0 => rfl
  | k + 1 => by
    rw [shutText, shut_shape url k, List.replicate_succ, tails, ← tails_comm]
    simp
def opensTo (k : Nat) : List Opn := (List.range k).map fun j => ⟨j, j + 1, false, false⟩
theorem opensTo_succ (k : Nat) : opensTo (k + 1) = opensTo k ++ [⟨k, k + 1, false, false⟩] := by unfold opensTo; rw [List.range_succ, List.map_append]; rfl
theorem run_opens (t : Option (List DefL)) (ts : List AtomT) (P : List UInt8 → List Inl) (c : List UInt8) (n : Nat) : ∀ k, k ≤ n →
    parseFrom t (List.replicate n 91 ++ c) ts P ⟨[], []⟩ 0 = parseFrom t (List.replicate n 91 ++ c) ts P ⟨List.replicate k (W [91]), opensTo k⟩ k
  | 0, _ => rfl
  | k + 1, h => by
    rw [run_opens t ts P c n k (by omega)]
    have hs : List.replicate n (91 : UInt8) ++ c = List.replicate k 91 ++ ([91] ++ (List.replicate (n - k - 1) 91 ++ c)) := by
      rw [← List.append_assoc, ← List.append_assoc]
      congr 1
      rw [show n = k + (1 + (n - k - 1)) by omega, ← List.replicate_append_replicate, ← List.replicate_append_replicate]
      simp
    have hk : k = (List.replicate k (91 : UInt8)).length := by simp
    have := run_open t ts P ⟨List.replicate k (W [91]), opensTo k⟩ _ (List.replicate k 91) _ hs
    rw [← hk] at this
    rw [this]
    congr 1
    · simp only [PSt.put]
      rw [opensTo_succ, List.replicate_succ']
      simp [W]
    · simp
theorem shut_all (o : List Opn) (h : ∀ x ∈ o, x.image = false) : ∀ x ∈ o.map shutOpen, x.shut = true := by
  intro x hx
  obtain ⟨y, hy, rfl⟩ := List.mem_map.1 hx
  simp [shutOpen, h y hy]
theorem close_shut {t : Option (List DefL)} {s : List UInt8} {st : PSt} {i n : Nat} (h : ∀ x ∈ st.opens, x.shut = true) : ∃ os, closeL t s st i n = (⟨st.items ++ [W [93]], os⟩, 0) ∧ ∀ x ∈ os, x.shut = true := by
  cases ho : st.opens.getLast? with
  | none =>
    refine ⟨st.opens, ?_, h⟩
    unfold closeL
    rw [ho]; rfl
  | some o =>
    refine ⟨st.opens.dropLast, ?_, fun x hx => h x ((List.dropLast_sublist _).subset hx)⟩
    unfold closeL
    rw [ho]
    simp only
    unfold closeOpen
    rw [if_pos (h o (List.mem_of_getLast? ho))]
    rfl
theorem run_tails (t : Option (List DefL)) (ts : List AtomT) (P : List UInt8 → List Inl) (url : List UInt8) (hu : Letters url) : ∀ (k : Nat) (a : List UInt8) (st : PSt), (∀ x ∈ st.opens, x.shut = true) →
    ∃ B os, parseFrom t (a ++ tails url k) ts P st a.length = ⟨st.items ++ B, os⟩ ∧ ∀ x ∈ B, ∃ w, x = W w
  | 0, a, st, h => ⟨[], st.opens, by rw [from_end _ _ _ _ _ _ (by simp [tails])]; simp, fun x hx => by simp at hx⟩
  | k + 1, a, st, h => by
    obtain ⟨os, hc, hos⟩ := close_shut (t := t) (s := a ++ tails url (k + 1)) (i := a.length) (n := a.length + 1) h
    have hs : a ++ tails url (k + 1) = a ++ ([93] ++ ([] ++ ((40 :: (url ++ [41])) ++ tails url k))) := by simp [tails, linkTail]
    have h1 := run_shut t ts P st _ a [] ((40 :: (url ++ [41])) ++ tails url k) _ hs (by rw [hc]; rfl)
    have hsp : ∀ b ∈ (40 : UInt8) :: (url ++ [41]), specialL.contains b = false := by
      intro b hb
      rcases List.mem_cons.1 hb with rfl | hb
      · decide
      · rcases List.mem_append.1 hb with hb | hb
        · exact letter_plainS hu b hb
        · simp at hb; rw [hb]; decide
    have hs2 : a ++ tails url (k + 1) = (a ++ ([93] ++ [])) ++ ((40 :: (url ++ [41])) ++ tails url k) := by simp [tails, linkTail]
    have h2 := run_word t ts P ⟨st.items ++ [W [93]], os⟩ _ (a ++ ([93] ++ [])) (40 :: (url ++ [41])) (tails url k) hs2 (by simp) hsp (by
      cases k with
      | zero => exact Or.inl rfl
      | succ k => exact Or.inr ⟨93, _, rfl, spec93⟩)
    obtain ⟨B, os', hB, hBw⟩ := run_tails t ts P url hu k ((a ++ ([93] ++ [])) ++ (40 :: (url ++ [41]))) (PSt.put ⟨st.items ++ [W [93]], os⟩ [wordsI (40 :: (url ++ [41]))]) hos
    rw [h1, h2]
    refine ⟨[W [93], W (40 :: (url ++ [41]))] ++ B, os', ?_, ?_⟩
    · rw [hs2, ← List.append_assoc, hB]
      simp [PSt.put, W]
    · intro x hx
      rcases List.mem_append.1 hx with hx | hx
      · simp at hx
        rcases hx with rfl | rfl
        · exact ⟨_, rfl⟩
        · exact ⟨_, rfl⟩
      · exact hBw x hx

def linksIn (l : List Inl) : Nat := (l.filter fun x => x.kind == 5).length
theorem linksIn_append (a b : List Inl) : linksIn (a ++ b) = linksIn a + linksIn b := by unfold linksIn; rw [List.filter_append, List.length_append]
theorem links_step (out : List Inl) (x : Inl) : linksIn (mergeStep out x) = linksIn out + linksIn [x] := by
  unfold mergeStep
  split
  · rename_i h
    have : linksIn [x] = 0 := by simp [linksIn, h.1]
    omega
  · split
    · rename_i t ht
      split
      · rename_i h
        have h1 : linksIn [x] = 0 := by simp [linksIn, h.1]
        have h2 : linksIn [({ t with text := t.text ++ x.text } : Inl)] = linksIn [t] := by simp [linksIn, h.2.1]
        rw [linksIn_append, h2, ← linksIn_append, ← last_split ht, h1]
        rfl
      · rw [linksIn_append]
        congr 1
        unfold wordsOnly
        split
        · rename_i hk; simp [linksIn, List.filter_cons, hk]
        · rfl
    · rw [linksIn_append]
      congr 1
      unfold wordsOnly
      split
      · rename_i hk; simp [linksIn, List.filter_cons, hk]
      · rfl
theorem links_fold : ∀ (l out : List Inl), linksIn (l.foldl mergeStep out) = linksIn out + linksIn l
  | [], out => rfl
  | x :: l, out => by
    rw [List.foldl_cons, links_fold l, links_step, show x :: l = [x] ++ l from rfl, linksIn_append]
    omega
theorem links_merge (l : List Inl) : linksIn (mergeL l) = linksIn l := by
  have := links_fold l []
  rw [show mergeL l = l.foldl mergeStep [] from rfl, this]
  show 0 + linksIn l = _
  omega
theorem links_words : ∀ (B : List IItem), (∀ x ∈ B, ∃ w, x = W w) → linksIn (B.flatMap IItem.l) = 0
  | [], _ => rfl
  | x :: B, h => by
    obtain ⟨w, rfl⟩ := h x (List.mem_cons_self ..)
    rw [List.flatMap_cons, linksIn_append, links_words B fun y hy => h y (List.mem_cons_of_mem _ hy)]
    rfl

theorem shut_plain (n : Nat) (url : List UInt8) (hu : Letters url) (h0 : url ≠ []) : linksIn (parse0 none (shutText url (n + 1))) = 1 := by
  unfold parse0
  rw [parse_from, shut_shape]
  rw [run_opens none [] _ ([120] ++ tails url (n + 1)) (n + 1) (n + 1) (Nat.le_refl _)]
  have hl1 : (List.replicate (n + 1) (91 : UInt8)).length = n + 1 := by simp
  have hw := run_word none [] (fun _ => []) ⟨List.replicate (n + 1) (W [91]), opensTo (n + 1)⟩ _ (List.replicate (n + 1) 91) [120] (tails url (n + 1)) rfl (by simp) (by intro b hb; simp at hb; rw [hb]; decide) (Or.inr ⟨93, _, rfl, spec93⟩)
  rw [hl1] at hw
  rw [hw]
  have hb := inside_bare [] url [] (tails url n) (by intro b hb; cases hb) hu h0 (by intro b hb; cases hb)
  simp only [List.nil_append, List.length_nil, Nat.zero_add, Nat.add_zero] at hb
  have hs : List.replicate (n + 1) (91 : UInt8) ++ ([120] ++ tails url (n + 1)) = List.replicate (n + 1) 91 ++ ([120] ++ ([93] ++ ((40 :: (url ++ [41])) ++ tails url n))) := by simp [tails, linkTail]
  have hlink : inlLinkL none [120] ((40 :: (url ++ [41])) ++ tails url n) = (⟨5, 0, [], url, []⟩, (40 :: (url ++ [41])).length, true) := by
    unfold inlLinkL
    rw [show (40 :: (url ++ [41])) ++ tails url n = 40 :: (url ++ 41 :: tails url n) by simp, hb, if_pos rfl]
    simp
  have hcl := run_close none [] (fun _ => []) (List.replicate (n + 1) 91) [120] (40 :: (url ++ [41])) (tails url n) (List.replicate (n + 1) (W [91]) ++ [W [120]]) (opensTo n) n _ (close_link (mid_eq _ [120] _) (drop_behind _ [120] _) rfl rfl (by rw [asked_no _ [120] (by simp) (by simp)]) hlink)
  rw [hs]
  have hst : (PSt.put ⟨List.replicate (n + 1) (W [91]), opensTo (n + 1)⟩ [wordsI [120]]) = ⟨List.replicate (n + 1) (W [91]) ++ [W [120]], opensTo n ++ [⟨n, (List.replicate (n + 1) (91 : UInt8)).length, false, false⟩]⟩ := by
    rw [hl1, opensTo_succ]; rfl
  have ht : (List.replicate (n + 1) (W [91]) ++ [W [120]]).take n = List.replicate n (W [91]) := by
    rw [List.take_append_of_le_length (by simp), List.take_replicate]
    congr 1; omega
  have hd : (List.replicate (n + 1) (W [91]) ++ [W [120]]).drop (n + 1) = [W [120]] := List.drop_left' (by simp)
  have hg : groupL [W [120]] = [wordsI [120]] := by
    have := group_W [[120]] (by simp)
    simpa using this
  simp only [ht, hd, hg, PSt.put] at hcl
  rw [hst, hcl]
  obtain ⟨B, os, hB, hBw⟩ := run_tails none [] (fun _ => []) url hu n (List.replicate (n + 1) 91 ++ [120] ++ ([93] ++ (40 :: (url ++ [41])))) ⟨List.replicate n (W [91]) ++ [⟨0, 0, false, false, withinL ⟨5, 0, [], url, []⟩ [wordsI [120]]⟩], (opensTo n).map shutOpen⟩ (shut_all (opensTo n) (by
    intro x hx
    obtain ⟨j, _, rfl⟩ := List.mem_map.1 hx
    rfl))
  rw [show List.replicate (n + 1) (91 : UInt8) ++ ([120] ++ ([93] ++ ((40 :: (url ++ [41])) ++ tails url n))) = (List.replicate (n + 1) 91 ++ [120] ++ ([93] ++ (40 :: (url ++ [41])))) ++ tails url n by simp]
  rw [hB]
  have hsign : ∀ x ∈ List.replicate n (W [91]) ++ [(⟨0, 0, false, false, withinL ⟨5, 0, [], url, []⟩ [wordsI [120]]⟩ : IItem)] ++ B, x.sign = 0 := by
    intro x hx
    simp only [List.mem_append, List.mem_singleton] at hx
    rcases hx with (hx | rfl) | hx
    · rw [(List.mem_replicate.1 hx).2]; rfl
    · rfl
    · obtain ⟨w, rfl⟩ := hBw x hx; rfl
  rw [group_plain _ hsign, links_merge, List.flatMap_append, List.flatMap_append, linksIn_append, linksIn_append, links_words B hBw, links_words (List.replicate n (W [91])) (fun x hx => ⟨[91], (List.mem_replicate.1 hx).2⟩)]
  rfl

end Go.Proofs.YtahljcbmckldhaaGreatDoor

/-
  InlinePlain, InlineLines, InlineEscapes, InlineAutos, InlineCodes: what Parse makes of their texts. Plain facts.
-/
namespace Go.Proofs.YtahljcbmckldhaaGreatDoor
open Go.RowKit
set_option linter.unusedVariables false
set_option linter.unusedSimpArgs false

/-! ### lines -/
def brkT (n m : Nat) : List UInt8 := List.replicate n 32 ++ 10 :: List.replicate m 32
def brkI (n : Nat) : Inl := ⟨if 2 ≤ n then 8 else 7, 0, [], [], []⟩
def joinB (m : Nat) : List (List UInt8 × Nat) → List UInt8
  | [] => []
  | [x] => x.1
  | x :: y :: r => x.1 ++ (brkT x.2 m ++ joinB m (y :: r))
def nodesB : List (List UInt8 × Nat) → List Inl
  | [] => []
  | [x] => [wordsI x.1]
  | x :: y :: r => wordsI x.1 :: brkI x.2 :: nodesB (y :: r)
/-- A line's byte: a letter, or a dot. -/
def lineB (b : UInt8) : Bool := (97 ≤ b && b ≤ 122) || b == 46
def Lined (l : List UInt8) : Prop := l ≠ [] ∧ ∀ b ∈ l, lineB b = true
theorem lineB_no : ∀ b : UInt8, lineB b = true → specialL.contains b = false ∧ ([32, 9] : List UInt8).contains b = false :=
  fun b => allB (p := fun b => lineB b = true → specialL.contains b = false ∧ ([32, 9] : List UInt8).contains b = false) (by unfold AllB; decide +kernel) b
theorem Lined.word {l : List UInt8} (h : Lined l) : ∀ b ∈ l, specialL.contains b = false := fun b hb => (lineB_no b (h.2 b hb)).1
theorem lineB_letter : ∀ b : UInt8, 97 ≤ b.toNat ∧ b.toNat ≤ 122 → lineB b = true :=
  fun b => allB (p := fun b => 97 ≤ b.toNat ∧ b.toNat ≤ 122 → lineB b = true) (by unfold AllB; decide +kernel) b
theorem Letters.lined {l : List UInt8} (h : Letters l) (h0 : l ≠ []) : Lined l := ⟨h0, fun b hb => lineB_letter b (h b hb)⟩
theorem joinB_head (m : Nat) (y : List UInt8 × Nat) (r : List (List UInt8 × Nat)) (h : Lined y.1) : ∃ d q, joinB m (y :: r) = d :: q ∧ ([32, 9] : List UInt8).contains d = false := by
  obtain ⟨x, n⟩ := y
  cases x with
  | nil => exact absurd rfl h.1
  | cons d q =>
    have := (lineB_no d (h.2 d (List.mem_cons_self ..))).2
    cases r with
    | nil => exact ⟨d, q, rfl, this⟩
    | cons z r => exact ⟨d, _, rfl, this⟩
def N (x : Inl) : IItem := ⟨0, 0, false, false, [x]⟩
theorem brkT_ne (n m : Nat) : brkT n m ≠ [] := by unfold brkT; simp
theorem brkT_len (n m : Nat) : (brkT n m).length = n + (1 + m) := by unfold brkT; simp; omega
theorem brkT_special (n m : Nat) (c : List UInt8) : ∃ d r, brkT n m ++ c = d :: r ∧ specialL.contains d = true := by
  unfold brkT
  cases n with
  | zero => exact ⟨10, _, rfl, by decide⟩
  | succ n => exact ⟨32, _, by rw [List.replicate_succ]; rfl, by decide⟩
theorem run_lines (t : Option (List DefL)) (ts : List AtomT) (P : List UInt8 → List Inl) (m : Nat) : ∀ (l : List (List UInt8 × Nat)) (a : List UInt8) (st : PSt), (∀ x ∈ l, Lined x.1) →
    parseFrom t (a ++ joinB m l) ts P st a.length = ⟨st.items ++ (nodesB l).map N, st.opens⟩
  | [], a, st, h => by rw [from_end _ _ _ _ _ _ (by simp [joinB])]; simp [nodesB]
  | [x], a, st, h => by
    have hx := h x (List.mem_cons_self ..)
    rw [run_word t ts P st _ a x.1 [] (by simp [joinB]) hx.1 hx.word (Or.inl rfl), from_end _ _ _ _ _ _ (by simp [joinB])]
    rfl
  | x :: y :: r, a, st, h => by
    have hx := h x (List.mem_cons_self ..)
    have hr : ∀ z ∈ y :: r, Lined z.1 := fun z hz => h z (List.mem_cons_of_mem _ hz)
    obtain ⟨d, q, hd, hdb⟩ := joinB_head m y r (hr y (List.mem_cons_self ..))
    rw [show joinB m (x :: y :: r) = x.1 ++ (brkT x.2 m ++ joinB m (y :: r)) from rfl, run_word t ts P st _ a x.1 (brkT x.2 m ++ joinB m (y :: r)) rfl hx.1 hx.word (Or.inr (brkT_special _ _ _))]
    have h2 := from_app t ts P (st.put [wordsI x.1]) ((st.put [wordsI x.1]).put [brkI x.2]) (a ++ x.1) (brkT x.2 m) (joinB m (y :: r)) (.brk (decide (2 ≤ x.2))) (brkT_ne _ _)
      (by rw [brkT_len, hd, ← next_brk x.2 m d q hdb]; unfold brkT; simp)
      (by
        show (PSt.put _ [_], _) = _
        rw [show (a ++ x.1 ++ brkT x.2 m).length = (a ++ x.1).length + (brkT x.2 m).length from List.length_append]
        congr 2
        unfold brkI
        simp)
    have hs : a ++ (x.1 ++ (brkT x.2 m ++ joinB m (y :: r))) = (a ++ x.1) ++ (brkT x.2 m ++ joinB m (y :: r)) := by simp
    rw [hs, h2, ← List.append_assoc, run_lines t ts P m (y :: r) _ _ hr]
    simp [PSt.put, nodesB, N]

theorem flat_single {α : Type} : ∀ (l : List α), (l.flatMap fun x => [x]) = l
  | [] => rfl
  | x :: l => by rw [List.flatMap_cons, flat_single l]; rfl
theorem group_N (l : List Inl) : groupL (l.map N) = mergeL l := by
  rw [group_plain _ (fun x hx => by obtain ⟨w, _, rfl⟩ := List.mem_map.1 hx; rfl), List.flatMap_map]
  exact congrArg _ (flat_single l)
theorem apart_other {x : Inl} {l : List Inl} (h : x.kind ≠ 1) (hl : Apart l) : Apart (x :: l) := by
  cases l with
  | nil => exact fun hh => absurd hh h
  | cons y l => exact ⟨fun hh => absurd hh h, fun hh => h hh.1, hl⟩
theorem brkI_kind (n : Nat) : (brkI n).kind ≠ 1 := by unfold brkI; simp only; split <;> decide
theorem nodesB_apart : ∀ (l : List (List UInt8 × Nat)), (∀ x ∈ l, Lined x.1) → Apart (nodesB l)
  | [], _ => trivial
  | [x], h => fun _ => (h x (List.mem_cons_self ..)).1
  | x :: y :: r, h => ⟨fun _ => (h x (List.mem_cons_self ..)).1, fun hh => brkI_kind _ hh.2.1, apart_other (brkI_kind _) (nodesB_apart (y :: r) fun z hz => h z (List.mem_cons_of_mem _ hz))⟩
theorem wordsI_clean (l : List UInt8) : Clean (wordsI l) := fun _ => ⟨rfl, rfl⟩
theorem brkI_clean (n : Nat) : Clean (brkI n) := fun h => absurd h (brkI_kind n)
theorem nodesB_clean : ∀ (l : List (List UInt8 × Nat)), ∀ x ∈ nodesB l, Clean x
  | [], x, h => by cases h
  | [y], x, h => by simp [nodesB] at h; rw [h]; exact wordsI_clean _
  | y :: z :: r, x, h => by
    rcases List.mem_cons.1 h with rfl | h
    · exact wordsI_clean _
    · rcases List.mem_cons.1 h with rfl | h
      · exact brkI_clean _
      · exact nodesB_clean (z :: r) x h
theorem lines_plain (m : Nat) (l : List (List UInt8 × Nat)) (h : ∀ x ∈ l, Lined x.1) : parse0 none (joinB m l) = nodesB l := by
  unfold parse0
  rw [parse_from]
  have := run_lines none [] (fun _ => []) m l [] ⟨[], []⟩ h
  rw [List.nil_append] at this
  rw [show (0 : Nat) = ([] : List UInt8).length from rfl, this]
  show groupL ([] ++ (nodesB l).map N) = _
  rw [List.nil_append, group_N, merge_apart (nodesB_apart l h) (nodesB_clean l)]
theorem joinB_drop (m : Nat) : ∀ (l : List (List UInt8 × Nat)) (i : Nat) (x : List UInt8 × Nat), l[i]? = some x → joinB m (l.drop i) = x.1 ++ (if i + 1 < l.length then brkT x.2 m ++ joinB m (l.drop (i + 1)) else [])
  | [], i, x, h => by simp at h
  | [y], 0, x, h => by simp at h; subst h; simp [joinB]
  | y :: z :: r, 0, x, h => by simp at h; subst h; simp [joinB]
  | y :: l, i + 1, x, h => by
    rw [List.drop_succ_cons, joinB_drop m l i x (by simpa using h), List.drop_succ_cons, List.length_cons]
    congr 1
    by_cases hh : i + 1 < l.length
    · rw [if_pos hh, if_pos (by omega)]
    · rw [if_neg hh, if_neg (by omega)]
theorem nodesB_len : ∀ (l : List (List UInt8 × Nat)), (nodesB l).length = 2 * l.length - 1
  | [] => rfl
  | [x] => rfl
  | x :: y :: r => by
    have := nodesB_len (y :: r)
    simp only [nodesB, List.length_cons] at this ⊢
    omega
theorem nodesB_even : ∀ (l : List (List UInt8 × Nat)) (i : Nat) (x : List UInt8 × Nat), l[i]? = some x → (nodesB l)[2 * i]? = some (wordsI x.1)
  | [], i, x, h => by simp at h
  | [y], 0, x, h => by simp at h; subst h; rfl
  | [y], i + 1, x, h => by simp at h
  | y :: z :: r, 0, x, h => by simp at h; subst h; rfl
  | y :: z :: r, i + 1, x, h => by
    have := nodesB_even (z :: r) i x (by simpa using h)
    rw [show 2 * (i + 1) = 2 * i + 1 + 1 by omega]
    simpa [nodesB] using this
theorem nodesB_odd : ∀ (l : List (List UInt8 × Nat)) (i : Nat) (x : List UInt8 × Nat), l[i]? = some x → i + 1 < l.length → (nodesB l)[2 * i + 1]? = some (brkI x.2)
  | [], i, x, h, _ => by simp at h
  | [y], i, x, h, hl => by simp at hl
  | y :: z :: r, 0, x, h, _ => by simp at h; subst h; rfl
  | y :: z :: r, i + 1, x, h, hl => by
    have := nodesB_odd (z :: r) i x (by simpa using h) (by simp at hl ⊢; omega)
    rw [show 2 * (i + 1) + 1 = (2 * i + 1) + 1 + 1 by omega]
    simpa [nodesB] using this

/-! ### InlineEscapes -/
def escB (c : UInt8) : List UInt8 := if asciiP c = true then [92, c] else [c]
def escL (l : List UInt8) : List UInt8 := l.flatMap escB
def plainB (c : UInt8) : Bool := !(asciiP c) && c != 32
/-- What stands in the law's text. -/
def Shown (c : UInt8) : Prop := 32 ≤ c.toNat ∧ c.toNat < 127
theorem plainB_no : ∀ c : UInt8, (32 ≤ c.toNat ∧ c.toNat < 127) → plainB c = true → specialL.contains c = false := fun c =>
  allB (p := fun c => (32 ≤ c.toNat ∧ c.toNat < 127) → plainB c = true → specialL.contains c = false) (by unfold AllB; decide +kernel) c
theorem shown_no10 (c : UInt8) (h : Shown c) : c ≠ 10 := by intro e; subst e; exact absurd h.1 (by decide)
theorem next_escape (c : UInt8) (r : List UInt8) (h : asciiP c = true) : nextL (92 :: c :: r) = (.word [c], 2) := by
  have hb : beginsL (92 :: c :: r) = some (.word [c], 2) := by
    rw [beginsL, if_neg (by decide), if_pos rfl]
    show (if asciiP c = true then some (Tok.word [c], 2) else _) = _
    rw [if_pos h]
  unfold nextL
  rw [hb]
theorem next_blank (n : Nat) (r : List UInt8) (hn : 1 ≤ n) (h : r = [] ∨ ∃ d q, r = d :: q ∧ d ≠ 32 ∧ d ≠ 10) : nextL (List.replicate n 32 ++ r) = (.word (List.replicate n 32), n) := by
  obtain ⟨m, rfl⟩ : ∃ m, n = m + 1 := ⟨n - 1, by omega⟩
  have ha : amongL (List.replicate (m + 1) 32 ++ r) [32] = m + 1 := by
    rcases h with rfl | ⟨d, q, rfl, hd, _⟩
    · rw [List.append_nil, among_all _ _ (rep_in [32] 32 _ (by decide)), List.length_replicate]
    · rw [among_to _ _ _ _ (rep_in [32] 32 _ (by decide)) (by simpa using hd), List.length_replicate]
  have hdr : (List.replicate (m + 1) (32 : UInt8) ++ r).drop (m + 1) = r := List.drop_left' (by simp)
  have htk : (List.replicate (m + 1) (32 : UInt8) ++ r).take (m + 1) = List.replicate (m + 1) 32 := List.take_left' (by simp)
  have hh : r.head? ≠ some 10 := by
    rcases h with rfl | ⟨d, q, rfl, _, hd⟩
    · simp
    · simpa using hd
  have hb : beginsL (List.replicate (m + 1) 32 ++ r) = some (.word (List.replicate (m + 1) 32), m + 1) := by
    rw [List.replicate_succ, List.cons_append] at ha hdr htk ⊢
    have hbl : beginsL (32 :: (List.replicate m 32 ++ r)) = (if ((32 :: (List.replicate m 32 ++ r)).drop (amongL (32 :: (List.replicate m 32 ++ r)) [32])).head? = some 10 then some (.brk (decide (2 ≤ amongL (32 :: (List.replicate m 32 ++ r)) [32])), amongL (32 :: (List.replicate m 32 ++ r)) [32] + behindT ((32 :: (List.replicate m 32 ++ r)).drop (amongL (32 :: (List.replicate m 32 ++ r)) [32])))
      else some (.word ((32 :: (List.replicate m 32 ++ r)).take (amongL (32 :: (List.replicate m 32 ++ r)) [32])), amongL (32 :: (List.replicate m 32 ++ r)) [32])) := rfl
    rw [hbl, ha, hdr, htk, if_neg hh]
  unfold nextL
  rw [hb]
theorem esc_head : ∀ (l : List UInt8), (∀ c ∈ l, Shown c) → escL l = [] ∨ ∃ d q, escL l = d :: q ∧ ((d = 92) ∨ (l.head? = some d ∧ asciiP d = false))
  | [], _ => Or.inl rfl
  | c :: l, _ => by
    right
    unfold escL escB
    rw [List.flatMap_cons]
    split
    · exact ⟨92, _, rfl, Or.inl rfl⟩
    · rename_i h
      exact ⟨c, _, rfl, Or.inr ⟨rfl, by simpa using h⟩⟩
theorem esc_same : ∀ (l : List UInt8), (∀ c ∈ l, asciiP c = false) → escL l = l
  | [], _ => rfl
  | c :: l, h => by
    unfold escL
    rw [List.flatMap_cons]
    show escB c ++ escL l = _
    rw [esc_same l fun x hx => h x (List.mem_cons_of_mem _ hx)]
    unfold escB
    rw [h c (List.mem_cons_self ..)]
    rfl
theorem esc_append (a b : List UInt8) : escL (a ++ b) = escL a ++ escL b := by unfold escL; rw [List.flatMap_append]
theorem span_of (p : UInt8 → Bool) : ∀ (l : List UInt8), ∃ a b, l = a ++ b ∧ (∀ x ∈ a, p x = true) ∧ (b = [] ∨ ∃ d q, b = d :: q ∧ p d = false) ∧ (∀ c r, l = c :: r → p c = true → a ≠ [])
  | [] => ⟨[], [], rfl, (fun x h => by cases h), Or.inl rfl, (fun c r h => by cases h)⟩
  | c :: l => by
    cases hc : p c
    · exact ⟨[], c :: l, rfl, (fun x h => by cases h), Or.inr ⟨c, l, rfl, hc⟩, (fun d r h hd => by injection h with h1 h2; subst h1; rw [hc] at hd; cases hd)⟩
    · obtain ⟨a, b, h1, h2, h3, _⟩ := span_of p l
      refine ⟨c :: a, b, by rw [h1]; rfl, fun x hx => ?_, h3, fun d r _ _ => by simp⟩
      rcases List.mem_cons.1 hx with rfl | hx
      · exact hc
      · exact h2 x hx
theorem run_esc (t : Option (List DefL)) (ts : List AtomT) (P : List UInt8 → List Inl) : ∀ (k : Nat) (l a : List UInt8) (st : PSt), l.length ≤ k → (∀ c ∈ l, Shown c) →
    ∃ ws : List (List UInt8), ws.flatten = l ∧ parseFrom t (a ++ escL l) ts P st a.length = ⟨st.items ++ ws.map W, st.opens⟩
  | _, [], a, st, _, _ => ⟨[], rfl, by rw [from_end _ _ _ _ _ _ (by simp [escL])]; simp⟩
  | 0, c :: l, a, st, h, _ => by simp at h
  | k + 1, c :: l, a, st, h, hs => by
    by_cases h1 : asciiP c = true
    · obtain ⟨ws, h2, h3⟩ := run_esc t ts P k l (a ++ [92, c]) (st.put [wordsI [c]]) (by simpa using h) (fun x hx => hs x (List.mem_cons_of_mem _ hx))
      refine ⟨[c] :: ws, by rw [List.flatten_cons, h2]; rfl, ?_⟩
      have he : escL (c :: l) = [92, c] ++ escL l := by
        unfold escL
        rw [List.flatMap_cons]
        congr 1
        unfold escB
        rw [if_pos h1]
      rw [he]
      rw [from_app t ts P st (st.put [wordsI [c]]) a [92, c] (escL l) (.word [c]) (by simp) (next_escape c _ h1) (by show (_, _) = _; rw [List.length_append])]
      rw [← List.append_assoc, h3]
      simp [PSt.put, W]
    · have h1f : asciiP c = false := by simpa using h1
      by_cases h32 : c = 32
      · obtain ⟨x, b, hx1, hx2, hx3, hx4⟩ := span_of (fun c => c == 32) (c :: l)
        have hxn := hx4 c l rfl (by simp [h32])
        have hxr : x = List.replicate x.length 32 := List.eq_replicate_iff.2 ⟨rfl, fun y hy => by simpa using hx2 y hy⟩
        have hsb : ∀ c ∈ b, Shown c := fun y hy => hs y (by rw [hx1]; exact List.mem_append_right _ hy)
        have hxs : escL x = x := esc_same x fun y hy => by rw [show y = 32 by simpa using hx2 y hy]; decide
        have hlen : x.length + b.length = l.length + 1 := by have := congrArg List.length hx1; simp at this; omega
        have hx0 := List.length_pos_iff.2 hxn
        obtain ⟨ws, h2, h3⟩ := run_esc t ts P k b (a ++ x) (st.put [wordsI x]) (by simp at h; omega) hsb
        have hnx : nextL (x ++ escL b) = (.word x, x.length) := by
          have := next_blank x.length (escL b) hx0 (by
            rcases esc_head b hsb with e | ⟨d, q, e, hd⟩
            · exact Or.inl e
            · refine Or.inr ⟨d, q, e, ?_⟩
              rcases hd with rfl | ⟨hh, _⟩
              · exact ⟨by decide, by decide⟩
              · rcases hx3 with e2 | ⟨d2, q2, e2, hd2⟩
                · rw [e2] at hh; cases hh
                · rw [e2] at hh; simp at hh; subst hh
                  exact ⟨by simpa using hd2, shown_no10 _ (hsb d2 (by rw [e2]; exact List.mem_cons_self ..))⟩)
          rw [← hxr] at this
          exact this
        refine ⟨x :: ws, by rw [List.flatten_cons, h2, hx1], ?_⟩
        rw [hx1, esc_append, hxs]
        rw [from_app t ts P st (st.put [wordsI x]) a x (escL b) (.word x) hxn hnx (by show (_, _) = _; rw [List.length_append])]
        rw [← List.append_assoc, h3]
        simp [PSt.put, W]
      · obtain ⟨x, b, hx1, hx2, hx3, hx4⟩ := span_of plainB (c :: l)
        have hxn := hx4 c l rfl (by simp [plainB, h1f, h32])
        have hsx : ∀ c ∈ x, Shown c := fun y hy => hs y (by rw [hx1]; exact List.mem_append_left _ hy)
        have hsb : ∀ c ∈ b, Shown c := fun y hy => hs y (by rw [hx1]; exact List.mem_append_right _ hy)
        have hxs : escL x = x := esc_same x fun y hy => by have := hx2 y hy; simp [plainB] at this; exact this.1
        have hlen : x.length + b.length = l.length + 1 := by have := congrArg List.length hx1; simp at this; omega
        have hx0 := List.length_pos_iff.2 hxn
        obtain ⟨ws, h2, h3⟩ := run_esc t ts P k b (a ++ x) (st.put [wordsI x]) (by simp at h; omega) hsb
        refine ⟨x :: ws, by rw [List.flatten_cons, h2, hx1], ?_⟩
        rw [hx1, esc_append, hxs]
        rw [run_word t ts P st _ a x (escL b) rfl hxn (fun y hy => plainB_no y (hsx y hy) (hx2 y hy)) (by
          rcases esc_head b hsb with e | ⟨d, q, e, hd⟩
          · exact Or.inl e
          · refine Or.inr ⟨d, q, e, ?_⟩
            rcases hd with rfl | ⟨hh, hd0⟩
            · decide
            · rcases hx3 with e2 | ⟨d2, q2, e2, hd2⟩
              · rw [e2] at hh; cases hh
              · rw [e2] at hh; simp at hh; subst hh
                simp [plainB, hd0] at hd2
                rw [hd2]; decide)]
        rw [← List.append_assoc, h3]
        simp [PSt.put, W]
theorem esc_plain (l : List UInt8) (h0 : l ≠ []) (h : ∀ c ∈ l, Shown c) : parse0 none (escL l) = [wordsI l] := by
  unfold parse0
  rw [parse_from]
  obtain ⟨ws, h1, h2⟩ := run_esc none [] (fun _ => []) l.length l [] ⟨[], []⟩ (Nat.le_refl _) h
  rw [List.nil_append] at h2
  rw [show (0 : Nat) = ([] : List UInt8).length from rfl, h2]
  show groupL ([] ++ ws.map W) = _
  rw [List.nil_append, group_W ws (by rw [h1]; exact h0), h1]

/-! ### InlineAutos -/
theorem run_auto (t : Option (List DefL)) (ts : List AtomT) (P : List UInt8 → List Inl) (st : PSt) (mail : Bool) (a x y c : List UInt8) (hx : Letters x) (hy : Letters y) (h2 : 2 ≤ x.length) (h20 : x.length ≤ 20) (hy0 : y ≠ []) :
    parseFrom t (a ++ ((60 :: (autoText mail x y ++ [62])) ++ c)) ts P st a.length = parseFrom t (a ++ ((60 :: (autoText mail x y ++ [62])) ++ c)) ts P (st.put [⟨5, 0, [], autoUrl mail x y, []⟩, ⟨1, 1, autoText mail x y, [], []⟩]) (a ++ (60 :: (autoText mail x y ++ [62]))).length := by
  refine from_app t ts P st _ a _ c (.auto (autoUrl mail x y) (autoText mail x y)) (by simp) ?_ (by show (_, _) = _; rw [List.length_append]; rfl)
  have := next_auto mail x y c hx hy h2 h20 hy0
  rw [show (60 :: (autoText mail x y ++ [62])) ++ c = 60 :: (autoText mail x y ++ 62 :: c) by simp, this]
  congr 1
  simp
def autosText (x y : List UInt8) : List UInt8 := [120] ++ ([32] ++ ((60 :: (autoText false x y ++ [62])) ++ ([32] ++ ((60 :: (autoText true x y ++ [62])) ++ []))))
theorem autos_plain (x y : List UInt8) (hx : Letters x) (hy : Letters y) (h2 : 2 ≤ x.length) (h20 : x.length ≤ 20) (hy0 : y ≠ []) :
    parse0 none (autosText x y) = [wordsI [120, 32], ⟨5, 0, [], autoUrl false x y, []⟩, ⟨1, 1, autoText false x y, [], []⟩, wordsI [32], ⟨5, 0, [], autoUrl true x y, []⟩, ⟨1, 1, autoText true x y, [], []⟩] := by
  unfold parse0
  rw [parse_from]
  unfold autosText
  have hb : ∀ u r : List UInt8, nextL ([32] ++ ((60 :: u) ++ r)) = (.word [32], 1) := fun u r => next_blank 1 (60 :: (u ++ r)) (Nat.le_refl _) (Or.inr ⟨60, u ++ r, rfl, by decide, by decide⟩)
  have e1 := run_word none [] (fun _ => []) ⟨[], []⟩ _ [] [120] ([32] ++ ((60 :: (autoText false x y ++ [62])) ++ ([32] ++ ((60 :: (autoText true x y ++ [62])) ++ [])))) rfl (by simp) (by intro b hb; simp at hb; rw [hb]; decide) (Or.inr ⟨32, _, rfl, by decide⟩)
  rw [List.nil_append, List.nil_append] at e1
  rw [show parseFrom none ([120] ++ ([32] ++ ((60 :: (autoText false x y ++ [62])) ++ ([32] ++ ((60 :: (autoText true x y ++ [62])) ++ []))))) [] (fun _ => []) ⟨[], []⟩ 0 = _ from e1]
  rw [from_app none [] (fun _ => []) (PSt.put ⟨[], []⟩ [wordsI [120]]) (PSt.put (PSt.put ⟨[], []⟩ [wordsI [120]]) [wordsI [32]]) [120] [32] _ (.word [32]) (by simp) (hb _ _) (by show (_, _) = _; rw [List.length_append])]
  rw [← List.append_assoc [120] [32]]
  rw [run_auto none [] (fun _ => []) _ false ([120] ++ [32]) x y _ hx hy h2 h20 hy0]
  rw [← List.append_assoc ([120] ++ [32])]
  rw [from_app none [] (fun _ => []) _ (PSt.put (PSt.put (PSt.put (PSt.put ⟨[], []⟩ [wordsI [120]]) [wordsI [32]]) [⟨5, 0, [], autoUrl false x y, []⟩, ⟨1, 1, autoText false x y, [], []⟩]) [wordsI [32]]) ([120] ++ [32] ++ (60 :: (autoText false x y ++ [62]))) [32] _ (.word [32]) (by simp) (hb _ _) (congrArg (Prod.mk _) List.length_append.symm)]
  rw [← List.append_assoc ([120] ++ [32] ++ (60 :: (autoText false x y ++ [62]))) [32]]
  rw [run_auto none [] (fun _ => []) _ true ([120] ++ [32] ++ (60 :: (autoText false x y ++ [62])) ++ [32]) x y [] hx hy h2 h20 hy0]
  rw [from_end _ _ _ _ _ _ (by simp)]
  have hx0 : x ≠ [] := by intro e; rw [e] at h2; simp at h2
  have ht : ∀ m, autoText m x y ≠ [] := fun m => by unfold autoText; simp
  rw [group_plain _ (by intro z hz; simp [PSt.put] at hz; rcases hz with rfl | rfl | rfl | rfl | rfl <;> rfl)]
  show mergeL [wordsI [120], wordsI [32], ⟨5, 0, [], autoUrl false x y, []⟩, ⟨1, 1, autoText false x y, [], []⟩, wordsI [32], ⟨5, 0, [], autoUrl true x y, []⟩, ⟨1, 1, autoText true x y, [], []⟩] = _
  have hm : mergeL [wordsI [120], wordsI [32], ⟨5, 0, [], autoUrl false x y, []⟩, ⟨1, 1, autoText false x y, [], []⟩, wordsI [32], ⟨5, 0, [], autoUrl true x y, []⟩, ⟨1, 1, autoText true x y, [], []⟩]
      = [⟨5, 0, [], autoUrl false x y, []⟩, ⟨1, 1, autoText false x y, [], []⟩, wordsI [32], ⟨5, 0, [], autoUrl true x y, []⟩, ⟨1, 1, autoText true x y, [], []⟩].foldl mergeStep [wordsI [120, 32]] := rfl
  rw [hm, merge_id]
  · rfl
  · refine ⟨fun _ => by simp [wordsI], fun h => by simp at h, ?_⟩
    refine ⟨fun h => by simp at h, fun h => by simp at h, ?_⟩
    refine ⟨fun _ => ht false, fun h => by simp [wordsI] at h, ?_⟩
    refine ⟨fun _ => by simp [wordsI], fun h => by simp at h, ?_⟩
    refine ⟨fun h => by simp at h, fun h => by simp at h, ?_⟩
    exact fun _ => ht true
  · intro z hz
    simp at hz
    rcases hz with rfl | rfl | rfl | rfl | rfl <;> intro h <;> first | exact ⟨rfl, rfl⟩ | cases h

/-! ### InlineCodes -/
theorem restore_none : ∀ (f : Nat) (l : List UInt8) (ts : List AtomT), l.length < f → (0 : UInt8) ∉ l → restoreGo f l ts = l
  | 0, l, ts, h, _ => absurd h (by omega)
  | f + 1, [], ts, _, _ => rfl
  | f + 1, c :: l, ts, h, h0 => by
    rw [restoreGo, if_neg (fun e => h0 (by rw [e]; exact List.mem_cons_self ..)), restore_none f l ts (by simpa using h) (fun e => h0 (List.mem_cons_of_mem _ e))]
theorem lfBlank_id : ∀ (l : List UInt8), (10 : UInt8) ∉ l → lfBlank l = l
  | [], _ => rfl
  | c :: l, h => by
    unfold lfBlank
    rw [List.map_cons, if_neg (fun e => h (by rw [e]; exact List.mem_cons_self ..))]
    exact congrArg _ (lfBlank_id l fun e => h (List.mem_cons_of_mem _ e))
theorem codes_plain (c : UInt8) (text : List UInt8) (ht : Letters text) (h96 : c ≠ 96) (h0 : c ≠ 0) (h10 : c ≠ 10) (h32 : c ≠ 32) :
    parse0 none (96 :: (c :: (text ++ [c]) ++ [96])) = [⟨2, 0, c :: (text ++ [c]), [], []⟩] := by
  have hno : ∀ x : UInt8, x.toNat < 97 → c ≠ x → x ∉ c :: (text ++ [c]) := fun x hx hc => by
    simp only [List.mem_cons, List.mem_append, List.not_mem_nil, or_false, not_or]
    exact ⟨fun e => hc e.symm, ht.not_mem hx, fun e => hc e.symm⟩
  have hk : codeText (c :: (text ++ [c])) = c :: (text ++ [c]) := by
    unfold codeText
    rw [lfBlank_id _ (hno 10 (by decide) h10), if_neg (fun e => h32 (by simpa using e.1))]
  have hn : nextL (96 :: (c :: (text ++ [c]) ++ [96])) = (.code (codeText (c :: (text ++ [c]))), 2 * 1 + (c :: (text ++ [c])).length) := next_code 1 (Nat.le_refl _) (c :: (text ++ [c])) (by simp) (hno 96 (by decide) h96)
  rw [hk] at hn
  unfold parse0
  rw [parse_from]
  have hlen : (96 :: (c :: (text ++ [c]) ++ [96])).length = 2 * 1 + (c :: (text ++ [c])).length := by simp; omega
  rw [from_step none _ [] (fun _ => []) ⟨[], []⟩ (PSt.put ⟨[], []⟩ [⟨2, 0, c :: (text ++ [c]), [], []⟩]) 0 (2 * 1 + (c :: (text ++ [c])).length) (2 * 1 + (c :: (text ++ [c])).length) (.code (c :: (text ++ [c]))) (by simp) hn (by
    show (PSt.put _ [⟨2, 0, restoreL _ _, [], []⟩], _) = _
    unfold restoreL
    rw [restore_none _ _ _ (Nat.lt_succ_self _) (hno 0 (by decide) h0), Nat.zero_add])]
  rw [from_end _ _ _ _ _ _ (by rw [hlen]; exact Nat.le_refl _)]
  rfl
theorem next_codeB : nextL [96, 97, 0, 48, 0, 98, 96] = (.code [97, 0, 48, 0, 98], 7) := by decide +kernel
theorem next_atom0 : nextL [0, 48, 0, 98] = (.atom 0, 3) := by decide +kernel
theorem codes_atom (label text : List UInt8) (P : List UInt8 → List Inl) :
    parseWith none [96, 97, 0, 48, 0, 98, 96] [⟨label, text⟩] P = [⟨2, 0, 97 :: (text ++ [98]), [], []⟩] := by
  rw [parse_from]
  have hr : restoreL [97, 0, 48, 0, 98] [⟨label, text⟩] = 97 :: (text ++ [98]) := by
    unfold restoreL
    show restoreGo 6 _ _ = _
    rw [restoreGo, if_neg (by decide), restoreGo, if_pos rfl, next_atom0]
    show 97 :: (text ++ restoreGo 4 [98] _) = _
    rw [restore_none 4 [98] _ (by decide) (by decide)]
  rw [from_step none _ _ P ⟨[], []⟩ (PSt.put ⟨[], []⟩ [⟨2, 0, 97 :: (text ++ [98]), [], []⟩]) 0 7 7 (.code [97, 0, 48, 0, 98]) (by decide) next_codeB (by
    show (PSt.put _ [⟨2, 0, restoreL _ _, [], []⟩], _) = _
    rw [hr])]
  rw [from_end _ _ _ _ _ _ (by decide)]
  rfl

end Go.Proofs.YtahljcbmckldhaaGreatDoor

/-
  A slice of bools that came in; bytes of the call's own, and what a store into them does.
-/
namespace Go.Proofs.YtahljcbmckldhaaGreatDoor
open Go.RowKit Go.Deep
set_option linter.unusedVariables false
set_option linter.unusedSimpArgs false

/-- What the walk is told of a slice of bools that came in. -/
def IsFlags (w : World) (a : Option Addr) (len : Nat) (P : Nat → Bool) : Prop :=
  ∃ b off, (0 < len → a = some ⟨b, off, none⟩) ∧ (0 < len → b < w.heap.size) ∧ (∀ i, i < len → w.cell? ⟨b, off + i, none⟩ = some (.bool (P i))) ∧ (len : Int) ≤ 9223372036854775807

theorem cellsBool : Tryz.prog.cellsOf 4 = 1 := by kernel_rfl

theorem add_zero_at (x : Addr) : x.add 0 = x := by simp [Addr.add]

theorem spot_of_cell {W : World} {x : Addr} {v : Value} (k1 : W.cell? x = some v) : x.spot = none ∧ x.block < W.heap.size := by
  refine ⟨?_, World.block_lt_of_cell? _ _ k1⟩
  unfold World.cell? at k1
  split at k1
  · split at k1
    · cases k1
    · rename_i hs; simpa using hs
  · cases k1

theorem open_flags {H : Type} {enc : TypeId × Value → H} {W : World} {a : Option Addr} {len cap : Nat} {d : DataW H} {p : List MemPlace}
    (hk : DataW.Trod enc Tryz.prog W 0 (fun _ => true) true 41 (.slice a len cap) d p) : ∃ P, IsFlags W a len P := by
  obtain ⟨fuel, hf⟩ := hk
  rcases open_bools Tryz.underlying41 Tryz.underlying4 cellsBool hf with ⟨hcs, _⟩ | ⟨x, l, c, B, hcs, hb, hl, hm, hx, hel⟩
  · simp only [Value.cells, List.cons.injEq, Value.slice.injEq, and_true] at hcs
    obtain ⟨rfl, rfl, rfl⟩ := hcs
    exact ⟨fun _ => false, 0, 0, fun h => absurd h (by omega), fun h => absurd h (by omega), fun i hi => absurd hi (by omega), by omega⟩
  · simp only [Value.cells, List.cons.injEq, Value.slice.injEq, and_true] at hcs
    obtain ⟨rfl, rfl, rfl⟩ := hcs
    have hmx : (len : Int) ≤ 9223372036854775807 := by unfold maxLen at hm; omega
    by_cases h0 : 0 < len
    · have k0 := hel 0 (by omega)
      rw [add_zero_at] at k0
      obtain ⟨hsp, hlt⟩ := spot_of_cell k0
      refine ⟨B, x.block, x.off, fun _ => ?_, fun _ => hlt, fun i hi => ?_, hmx⟩
      · obtain ⟨b, o, s⟩ := x; simp only at hsp; rw [hsp]
      · rw [← add_at x hsp]; exact hel i (by omega)
    · exact ⟨B, 0, 0, fun h => absurd h h0, fun h => absurd h h0, fun i hi => absurd hi (by omega), hmx⟩

/-- The bytes l stand at the head of a block, and may be written. -/
def BytesAt (W : World) (g : Nat) (l : List UInt8) : Prop := ∀ j, j < l.length → W.cell? ⟨g, j, none⟩ = some (.int .u8 ((l.getD j 0).toNat : Int)) ∧ W.frozen? ⟨g, j, none⟩ = false

theorem BytesAt.below {W W' : World} {g n : Nat} {l : List UInt8} (h : BytesAt W g l) (hb : Below n W W') (hg : g < n) : BytesAt W' g l :=
  fun j hj => ⟨(hb.cell (p := ⟨g, j, none⟩) hg).trans (h j hj).1, (hb.frozen (p := ⟨g, j, none⟩) hg).trans (h j hj).2⟩

theorem BytesAt.set {W : World} {g : Nat} {l : List UInt8} (h : BytesAt W g l) (i : Nat) (hi : i < l.length) (c : UInt8) : BytesAt (W.setCell ⟨g, i, none⟩ (.int .u8 (c.toNat : Int))) g (l.set i c) := by
  intro j hj
  rw [List.length_set] at hj
  obtain ⟨h1, h2⟩ := h j hj
  obtain ⟨h3, h4⟩ := h i hi
  by_cases e : j = i
  · subst e
    refine ⟨?_, ?_⟩
    · simp [go_sem, h3, hj]
    · simp [go_sem, h4]
  · refine ⟨?_, ?_⟩
    · have : ¬ i = j := fun x => e x.symm
      simp [go_sem, h1, e, this, List.getElem?_set]
    · simp [go_sem, h2]

/-- '[]byte(s)' lays the bytes of s. -/
theorem bytes_laid (W : World) (s : ByteArray) (cap : Nat) (e : TypeId) : BytesAt (W.alloc (.cells (bytesRow s cap) e ((bytesRow s cap).size, (bytesRow s cap).size + 1))) W.heap.size s.data.toList := by
  intro j hj
  have hj' : j < s.data.size := by simpa using hj
  refine ⟨?_, ?_⟩
  · rw [World.cell?_alloc_mark, bytesRow_at s cap j hj']
    have e : s.data.toList.getD j 0 = s.data[j] := by rw [List.getD_eq_getElem?_getD, List.getElem?_eq_getElem hj]; simp
    rw [e]
  · rw [World.frozen?_alloc_mark]
    have : j < (bytesRow s cap).size := by
      unfold bytesRow
      rw [Array.size_append, Array.size_map]
      omega
    simp; omega

end Go.Proofs.YtahljcbmckldhaaGreatDoor

/-
  Slices of strings, of bools and of ints that came in: what the walks are told of them.
-/
namespace Go.Proofs.YtahljcbmckldhaaGreatDoor
open Go.RowKit Go.Deep Go.ChangeShapes Go.WideShapes
set_option linter.unusedVariables false
set_option linter.unusedSimpArgs false

/-- What the walk is told of a slice of one cell an element. -/
def IsRow1 {α : Type} (mk : α → Value) (w : World) (a : Option Addr) (len : Nat) (P : Nat → α) : Prop :=
  ∃ b off, (0 < len → a = some ⟨b, off, none⟩) ∧ (0 < len → b < w.heap.size) ∧ (∀ i, i < len → w.cell? ⟨b, off + i, none⟩ = some (mk (P i))) ∧ (len : Int) ≤ 9223372036854775807
theorem IsRow1.below {α : Type} {mk : α → Value} {w w' : World} {a : Option Addr} {len n : Nat} {P : Nat → α} (h : IsRow1 mk w a len P) (hb : Below n w w') (hn : w.heap.size ≤ n) : IsRow1 mk w' a len P := by
  obtain ⟨b, off, h1, h2, h3, h4⟩ := h
  exact ⟨b, off, h1, fun h0 => Nat.lt_of_lt_of_le (h2 h0) hb.size, fun i hi => (hb.cell (p := ⟨b, off + i, none⟩) (Nat.lt_of_lt_of_le (h2 (by omega)) hn)).trans (h3 i hi), h4⟩

theorem cell15Str : Tryz.prog.cellsOf 9 = 1 := by kernel_rfl
theorem cell15Bool : Tryz.prog.cellsOf 4 = 1 := by kernel_rfl
theorem cell15Int : Tryz.prog.cellsOf 3 = 1 := by kernel_rfl

theorem open_row1 {α : Type} {mk : α → Value} (a0 : α) {t e : TypeId} {H : Type} {enc : TypeId × Value → H} {W : World} {a : Option Addr} {len cap : Nat} {d : DataW H} {p : List MemPlace}
    (ht : Tryz.prog.underlying t = some (.slice e)) (hc : Tryz.prog.cellsOf e = 1)
    (hel : ∀ n v x, DataW.trod enc Tryz.prog W 0 (fun _ => true) true n e [v] = some x → ∃ q, v = mk q)
    (hk : DataW.Trod enc Tryz.prog W 0 (fun _ => true) true t (.slice a len cap) d p) : ∃ P, IsRow1 mk W a len P := by
  obtain ⟨fuel, hf⟩ := hk
  rcases open_slice1 ht hc hf with ⟨hcs, _⟩ | ⟨x, l, c, m, n, V, D, Pl, hcs, hb, hl, hm, hmm, _, hx⟩
  · simp only [Value.cells, List.cons.injEq, Value.slice.injEq, and_true] at hcs
    obtain ⟨rfl, rfl, rfl⟩ := hcs
    exact ⟨fun _ => a0, 0, 0, fun h => absurd h (by omega), fun h => absurd h (by omega), fun i hi => absurd hi (by omega), by omega⟩
  · simp only [Value.cells, List.cons.injEq, Value.slice.injEq, and_true] at hcs
    obtain ⟨rfl, rfl, rfl⟩ := hcs
    have hmx : (len : Int) ≤ 9223372036854775807 := by unfold maxLen at hm; omega
    have hlm : len ≤ m := by rw [hmm]; split <;> omega
    by_cases h0 : 0 < len
    · have key : ∀ i, ∃ q : α, i < len → W.cell? (x.add i) = some (mk q) := by
        intro i
        by_cases hi : i < len
        · obtain ⟨h1, h2⟩ := hx i (by omega)
          obtain ⟨q, hq⟩ := hel _ _ _ h2
          exact ⟨q, fun _ => by rw [h1, hq]⟩
        · exact ⟨a0, fun h => absurd h hi⟩
      obtain ⟨F, hF⟩ := Classical.axiomOfChoice key
      have k0 := hF 0 h0
      rw [add_zero_at] at k0
      obtain ⟨hsp, hlt⟩ := spot_of_cell k0
      refine ⟨F, x.block, x.off, fun _ => ?_, fun _ => hlt, fun i hi => ?_, hmx⟩
      · obtain ⟨b, o, s⟩ := x; simp only at hsp; rw [hsp]
      · rw [← add_at x hsp]; exact hF i hi
    · exact ⟨fun _ => a0, 0, 0, fun h => absurd h h0, fun h => absurd h h0, fun i hi => absurd hi (by omega), hmx⟩

theorem open_strs {H : Type} {enc : TypeId × Value → H} {W : World} {a : Option Addr} {len cap : Nat} {d : DataW H} {p : List MemPlace}
    (hk : DataW.Trod enc Tryz.prog W 0 (fun _ => true) true 24 (.slice a len cap) d p) : ∃ P, IsRow1 Value.string W a len P :=
  open_row1 ByteArray.empty Tryz.underlying24 cell15Str (fun n v x h => by
    obtain ⟨s, e, _⟩ := DataW.trod_string Tryz.underlying9 h
    injection e with e _
    exact ⟨s, e⟩) hk
theorem open_bools {H : Type} {enc : TypeId × Value → H} {W : World} {a : Option Addr} {len cap : Nat} {d : DataW H} {p : List MemPlace}
    (hk : DataW.Trod enc Tryz.prog W 0 (fun _ => true) true 41 (.slice a len cap) d p) : ∃ P, IsRow1 Value.bool W a len P :=
  open_row1 false Tryz.underlying41 cell15Bool (fun n v x h => by
    obtain ⟨s, e, _⟩ := DataW.trod_bool Tryz.underlying4 h
    injection e with e _
    exact ⟨s, e⟩) hk
theorem open_ints {H : Type} {enc : TypeId × Value → H} {W : World} {a : Option Addr} {len cap : Nat} {d : DataW H} {p : List MemPlace}
    (hk : DataW.Trod enc Tryz.prog W 0 (fun _ => true) true 22 (.slice a len cap) d p) : ∃ P, IsRow1 (Value.int .i64) W a len P :=
  open_row1 0 Tryz.underlying22 cell15Int (fun n v x h => by
    obtain ⟨s, e, _⟩ := DataW.trod_int Tryz.underlying3 h
    injection e with e _
    exact ⟨s, e⟩) hk

end Go.Proofs.YtahljcbmckldhaaGreatDoor

/-
  The texts of InlinePlain and InlineLines: what stands so far, and what is left. Plain facts.
-/
namespace Go.Proofs.YtahljcbmckldhaaGreatDoor
open Go.RowKit
set_option linter.unusedVariables false
set_option linter.unusedSimpArgs false

def linesOf (P : Nat → ByteArray) (n : Nat → Nat) (len : Nat) : List (List UInt8 × Nat) := (List.range len).map fun j => ((P j).data.toList, n j)
theorem linesOf_len (P : Nat → ByteArray) (n : Nat → Nat) (len : Nat) : (linesOf P n len).length = len := by simp [linesOf]
theorem linesOf_at (P : Nat → ByteArray) (n : Nat → Nat) (len i : Nat) (h : i < len) : (linesOf P n len)[i]? = some ((P i).data.toList, n i) := by simp [linesOf, h]
def Good (P : Nat → ByteArray) (i : Nat) : Prop := ∀ j, j < i → Lined (P j).data.toList
theorem Good.zero (P : Nat → ByteArray) : Good P 0 := fun j h => absurd h (by omega)
theorem Good.step {P : Nat → ByteArray} {i : Nat} {x : ByteArray} (h : Good P i) (hx : P i = x) (hl : Lined x.data.toList) : Good P (i + 1) := fun j hj => by
  by_cases e : j = i
  · subst e; rw [hx]; exact hl
  · exact h j (by omega)
theorem Good.lines {P : Nat → ByteArray} {len : Nat} (h : Good P len) (n : Nat → Nat) : ∀ x ∈ linesOf P n len, Lined x.1 := by
  intro x hx
  obtain ⟨j, hj, rfl⟩ := List.mem_map.1 hx
  exact h j (by simpa using hj)
theorem lined_take {l : List UInt8} {k : Nat} {c : UInt8} (h : ∀ x ∈ l.take k, lineB x = true) (hk : l[k]? = some c) (hc : lineB c = true) : ∀ x ∈ l.take (k + 1), lineB x = true := by
  obtain ⟨hlt, he⟩ := List.getElem?_eq_some_iff.1 hk
  rw [List.take_succ_eq_append_getElem hlt, he]
  intro x hx
  rcases List.mem_append.1 hx with hx | hx
  · exact h x hx
  · rw [List.mem_singleton.1 hx]; exact hc
theorem lineB_dot {d : UInt8} (h : d.toNat = 46) : lineB d = true := by
  have : d = 46 := by rw [← UInt8.toNat_inj]; exact h
  rw [this]; decide
theorem ba_ne {x : ByteArray} (h : ¬ x.size = 0) : x.data.toList ≠ [] := fun e => h (by rw [Lib.size_eq, e]; rfl)

/-- What is left of the text of InlinePlain. -/
def restP (l : List (List UInt8 × Nat)) (i : Nat) : List UInt8 := if i = 0 then joinB 0 l else if i < l.length then 10 :: joinB 0 (l.drop i) else []
theorem restP_zero (l : List (List UInt8 × Nat)) : restP l 0 = joinB 0 l := rfl
theorem restP_step (l : List (List UInt8 × Nat)) (i : Nat) (x : List UInt8 × Nat) (h : l[i]? = some x) (h0 : x.2 = 0) : restP l i = (if i = 0 then [] else [10]) ++ (x.1 ++ restP l (i + 1)) := by
  obtain ⟨hlt, _⟩ := List.getElem?_eq_some_iff.1 h
  have hd := joinB_drop 0 l i x h
  have h1 : restP l (i + 1) = if i + 1 < l.length then 10 :: joinB 0 (l.drop (i + 1)) else [] := by unfold restP; rw [if_neg (by omega)]
  rw [h1]
  unfold restP
  by_cases hi : i = 0
  · subst hi
    rw [if_pos rfl, if_pos rfl]
    rw [List.drop_zero] at hd
    rw [hd, h0]; rfl
  · rw [if_neg hi, if_neg hi, if_pos hlt, hd, h0]; rfl
theorem restP_end (l : List (List UInt8 × Nat)) : restP l l.length = [] := by
  unfold restP
  split
  · rename_i h; rw [List.eq_nil_of_length_eq_zero h]; rfl
  · rw [if_neg (Nat.lt_irrefl _)]

/-- The node in an even, in an odd place. -/
theorem nodes_word (P : Nat → ByteArray) (n : Nat → Nat) (len j : Nat) (h : j < len) : (nodesB (linesOf P n len))[2 * j]? = some (wordsI (P j).data.toList) := nodesB_even _ _ _ (linesOf_at P n len j h)
theorem nodes_brk (P : Nat → ByteArray) (n : Nat → Nat) (len j : Nat) (h : j + 1 < len) : (nodesB (linesOf P n len))[2 * j + 1]? = some (brkI (n j)) := nodesB_odd _ _ _ (linesOf_at P n len j (by omega)) (by rw [linesOf_len]; exact h)
theorem nodes_len (P : Nat → ByteArray) (n : Nat → Nat) (len : Nat) : (nodesB (linesOf P n len)).length = 2 * len - 1 := by rw [nodesB_len, linesOf_len]

end Go.Proofs.YtahljcbmckldhaaGreatDoor

/-
  inline.parser.token: an atom of the text: what stands in its span.
-/
namespace Go.Proofs.YtahljcbmckldhaaGreatDoor
open Go.RowKit
set_option maxRecDepth 100000
set_option linter.unusedVariables false
set_option linter.unusedSimpArgs false


theorem atomIn_len (x : AtomT) : (atomCells x).length = 2 := rfl

set_option maxHeartbeats 8000000 in
theorem tk_atom (B0 P : Nat) (s : ByteArray) (av tv : Value) (t : Option (List DefL)) (ts : List AtomT) (n : Nat) (x : AtomT) (l : List Inl) (st : PSt) (i next : Nat) (w : World) (hL : Low B0 w tv av t ts) (hP0 : B0 ≤ P) (h : StAt w B0 P s av tv st) (hn : st.items.length ≤ 1000000000)
    (hx : ts[n]? = some x) (hll : l.length ≤ 1000000000000) (hld : ∀ y ∈ l, y.depth ≤ 1000000000000)
    (hp : ∀ w', Low B0 w' tv av t ts → Calls Tryz.prog 13 #[.string ⟨x.text.toArray⟩, .slice none 0 0, tv] w' fun e w2 => ∃ v', e = .returned v' ∧ InlsAt w2 v' l ∧ Below w'.heap.size w' w2) :
    Calls Tryz.prog 19 #[.pointer (some ⟨P, 0, none⟩), (Tok.atom n).val, .int .i64 i, .int .i64 next] w fun e w' => e = .returned (.int .i64 next) ∧ StAt w' B0 P s av tv (st.put (withinL ⟨12, 0, x.label, [], []⟩ l)) ∧ Below B0 w w' := by
  have hs0 := st_size hP0 h
  have hnt : n < ts.length := (List.getElem?_eq_some_iff.1 hx).1
  have hb1 : Below w.heap.size w (w.alloc (.cells #[.string ⟨#[]⟩, .string ⟨#[]⟩] 79)) := (Below.refl _ w).alloc (Nat.le_refl _) _
  have hb2 := hb1.alloc hb1.size (.cells #[.bool false] 83)
  have hb3 := hb2.alloc hb2.size (.cells #[.int .i64 n] 86)
  obtain ⟨iv, ov, its, hP, _⟩ := h.below hb3
  obtain ⟨_, p1, _, _, _⟩ := ParAt.cells hP
  obtain ⟨_, _, ao, c, hav, _⟩ := hL.here
  have HB3 := Lib.hid hb3
  have H := Lib.hid h
  have HL := Lib.hid hL
  have HP := Lib.hid hp
  have HXX := Lib.hid hx
  have HWI := Lib.hid (fun (v : Value) (W : World) (hI : InlsAt W v l) => show Calls Tryz.prog 28 #[.agg #[.int .i64 12, .int .i64 0, .string ⟨x.label.toArray⟩, .string ⟨#[]⟩, .string ⟨#[]⟩], v] W _ from
    within_any ⟨12, 0, x.label, [], []⟩ v l W hI hll hld)
  have q1 := tb_Atom_Word
  have q2 := tb_Atom_Code
  have q3 := tb_Atom_Tag
  have q4 := tb_Atom_Auto
  have q5 := tb_Atom_Break
  have q6 := tb_Atom_Atom
  have hcmp : (n : Int) < (ts.length : Int) := by omega
  rw [hav] at p1
  have HAV := Lib.hid hav
  clear h hb1 hb2 hb3 hP hav hL hp hx
  show Calls Tryz.prog _ #[_, .iface 86 (.agg #[.int .i64 n]), _, _] w _
  go_enter Tryz.func19, Tryz.ntmps19
  go_wp2_with fail
  go_quiet (fail)
  have hb4 := below_drewsN HB3.out nq
  have hkA : (((w.alloc (.cells #[.string ⟨#[]⟩, .string ⟨#[]⟩] 79)).alloc (.cells #[.bool false] 83)).alloc (.cells #[.int .i64 n] 86)).heap[w.heap.size + 1 + 1]? = some (.cells #[.int .i64 n] 86 (0, 0)) := by
    have := heap_alloc_new ((w.alloc (.cells #[.string ⟨#[]⟩, .string ⟨#[]⟩] 79)).alloc (.cells #[.bool false] 83)) (.cells #[.int .i64 n] 86)
    simpa using this
  obtain ⟨W0, hW0⟩ : ∃ W, ((w.alloc (.cells #[.string ⟨#[]⟩, .string ⟨#[]⟩] 79)).alloc (.cells #[.bool false] 83)).alloc (.cells #[.int .i64 n] 86) = W := ⟨_, rfl⟩
  rw [hW0] at hb4 hkA p1 ⊢
  replace hkA : (W0.drewN nq).heap[w.heap.size + 1 + 1]? = some (.cells #[.int .i64 n] 86 (0, 0)) := by rw [← hkA]; exact (below_drewN W0 nq).block _ (Array.getElem?_eq_some_iff.1 hkA).1
  obtain ⟨W, hW⟩ : ∃ W2, W0.drewN nq = W2 := ⟨_, rfl⟩
  rw [hW] at hb4 hkA ⊢
  obtain ⟨ka, hka⟩ : ∃ k, w.heap.size + 1 + 1 = k := ⟨_, rfl⟩
  rw [hka] at hkA ⊢
  have a0 : W.cell? ⟨ka, 0, none⟩ = some (.int .i64 n) := by rw [cell_of_row W ka 0 _ _ _ hkA]; rfl
  have hbd := (Below.refl W.heap.size W).drew
  have hLW := HL.out.step (hb4.mono hs0)
  have hHW := H.out.below hb4
  obtain ⟨ao2, c2, hav2, hA⟩ := hLW.here.2.2
  rw [HAV.out] at hav2
  injection hav2 with e1 _ e2
  subst e1 e2
  have hRA := hA (by omega)
  obtain ⟨ga, oa, rfl⟩ := hRA.addr (by omega)
  have r0 : W.cell? ⟨ga, oa + n * 2, none⟩ = some (.string ⟨x.label.toArray⟩) := hRA.cell atomIn_len n 0 x _ HXX.out (by omega) rfl
  have r1 : W.cell? ⟨ga, oa + n * 2 + 1, none⟩ = some (.string ⟨x.text.toArray⟩) := hRA.cell atomIn_len n 1 x _ HXX.out (by omega) rfl
  obtain ⟨iv3, ov3, its3, hP3, _⟩ := id hHW
  obtain ⟨_, p1, p2, _, _⟩ := ParAt.cells hP3
  rw [HAV.out] at p1
  have s0 : W.drew.cell? ⟨ga, oa + n * 2, none⟩ = some (.string ⟨x.label.toArray⟩) := r0
  have s1 : W.drew.cell? ⟨ga, oa + n * 2 + 1, none⟩ = some (.string ⟨x.text.toArray⟩) := r1
  have s2 : W.drew.cell? ⟨P, 1, none⟩ = some (.slice (some ⟨ga, oa, none⟩) ts.length c) := p1
  have s3 : W.drew.cell? ⟨ka, 0, none⟩ = some (.int .i64 n) := a0
  have hba := hbd.alloc hbd.size (.cells #[.string ⟨#[]⟩, .string ⟨#[]⟩] 34)
  have hgaW : ga < W.heap.size := (spot_of_cell r0).2
  have hPW : P < W.heap.size := par_lt hP3
  have hkaW : ka < W.heap.size := (spot_of_cell a0).2
  have z0 : (W.drew.alloc (.cells #[.string ⟨#[]⟩, .string ⟨#[]⟩] 34)).cell? ⟨ga, oa + n * 2, none⟩ = some (.string ⟨x.label.toArray⟩) := (hba.cell (p := ⟨ga, oa + n * 2, none⟩) hgaW).trans r0
  have z1 : (W.drew.alloc (.cells #[.string ⟨#[]⟩, .string ⟨#[]⟩] 34)).cell? ⟨ga, oa + n * 2 + 1, none⟩ = some (.string ⟨x.text.toArray⟩) := (hba.cell (p := ⟨ga, oa + n * 2 + 1, none⟩) hgaW).trans r1
  have z2 : (W.drew.alloc (.cells #[.string ⟨#[]⟩, .string ⟨#[]⟩] 34)).cell? ⟨P, 1, none⟩ = some (.slice (some ⟨ga, oa, none⟩) ts.length c) := (hba.cell (p := ⟨P, 1, none⟩) hPW).trans p1
  have z3 : (W.drew.alloc (.cells #[.string ⟨#[]⟩, .string ⟨#[]⟩] 34)).cell? ⟨ka, 0, none⟩ = some (.int .i64 n) := (hba.cell (p := ⟨ka, 0, none⟩) hkaW).trans a0
  clear hRA hA hP3 hba
  have HX := Lib.hid (And.intro hb4 (And.intro hHW hkA))
  clear hb4 hHW hkA hLW hbd p2 HB3
  go_wp2_with fail
  go_region
  obtain ⟨hb4, hHW, hkA⟩ := HX.out
  have hbn := ((Below.refl W.heap.size W).alloc (Nat.le_refl _) (.cells #[.string ⟨x.label.toArray⟩, .string ⟨x.text.toArray⟩] 34)).drew
  have hkn : (W.alloc (.cells #[.string ⟨x.label.toArray⟩, .string ⟨x.text.toArray⟩] 34)).drew.heap[W.heap.size]? = some (.cells #[.string ⟨x.label.toArray⟩, .string ⟨x.text.toArray⟩] 34 (0, 0)) := heap_alloc_new W _
  have hB2 := below_step hb4 hbn
  have hH2 := hHW.below hbn
  obtain ⟨K, hKK⟩ : ∃ K, W.heap.size = K := ⟨_, rfl⟩
  obtain ⟨w2, hw2⟩ : ∃ w2, (W.alloc (.cells #[.string ⟨x.label.toArray⟩, .string ⟨x.text.toArray⟩] 34)).drew = w2 := ⟨_, rfl⟩
  rw [hKK, hw2] at hkn ⊢
  rw [hw2] at hB2 hH2
  have c0 : w2.cell? ⟨K, 0, none⟩ = some (.string ⟨x.label.toArray⟩) := by rw [cell_of_row w2 K 0 _ _ _ hkn]; rfl
  have c1 : w2.cell? ⟨K, 1, none⟩ = some (.string ⟨x.text.toArray⟩) := by rw [cell_of_row w2 K 1 _ _ _ hkn]; rfl
  have hKl : K < w2.heap.size := (Array.getElem?_eq_some_iff.1 hkn).1
  have p2 : w2.cell? ⟨P, 2, none⟩ = some tv := by obtain ⟨_, _, _, hq, _⟩ := id hH2; exact (ParAt.cells hq).2.2.1
  have HZ := Lib.hid (And.intro hB2 (And.intro (show StAt w2.drew B0 P s av tv st from hH2.below (Below.refl w2.heap.size w2).drew) hkn))
  clear hb4 hHW hkA hbn hB2 hH2 hw2 hKK HX hkn a0 r0 r1 p1 s0 s1 s2 s3 z0 z1 z2 z3 HXX hgaW hPW hkaW
  go_wp2_with fail
  refine wp_region_I (S := fun j W' => ([2, 5, 9, 10].contains j = true) → (W'.cell? ⟨K, 0, none⟩ = some (.string ⟨x.label.toArray⟩) ∧ W'.cell? ⟨K, 1, none⟩ = some (.string ⟨x.text.toArray⟩) ∧ W'.cell? ⟨P, 2, none⟩ = some tv)) (by kernel_rfl) ?_
  refine wpAnyI_take (S0 := fun _ => True) (i := 0) (v := ?_) rfl (by kernel_rfl) (by kernel_rfl) (by kernel_rfl) (by kernel_rfl) (List.range 13) (by kernel_rfl) (fun _ _ _ h => h) (fun _ _ h => absurd h (by decide)) (fun _ _ _ _ => trivial) (some 125) rfl (Or.inl ⟨by rfl, ?_⟩) trivial ?_
  rotate_left
  · intro w' _; go_simp <;> with_reducible rfl
  try simp only [Act.put, List.setIfInBounds_toArray, List.set_cons_zero, List.set_cons_succ]
  refine wpAnyI_take (S0 := fun _ => True) (i := 1) (v := ?_) rfl (by kernel_rfl) (by kernel_rfl) (by kernel_rfl) (by kernel_rfl) (List.range 13) (by kernel_rfl) (fun _ _ _ h => h) (fun _ _ h => absurd h (by decide)) (fun _ _ _ _ => trivial) (some 126) rfl (Or.inl ⟨by rfl, ?_⟩) trivial ?_
  rotate_left
  · intro w' _; go_simp <;> with_reducible rfl
  try simp only [Act.put, List.setIfInBounds_toArray, List.set_cons_zero, List.set_cons_succ]
  refine wpAnyI_take (S0 := fun _ => True) (i := 4) (v := ?_) rfl (by kernel_rfl) (by kernel_rfl) (by kernel_rfl) (by kernel_rfl) (List.range 13) (by kernel_rfl) (fun _ _ _ h => h) (fun _ _ h => absurd h (by decide)) (fun _ _ _ _ => trivial) (some 129) rfl (Or.inl ⟨by rfl, ?_⟩) trivial ?_
  rotate_left
  · intro w' _; go_simp <;> with_reducible rfl
  try simp only [Act.put, List.setIfInBounds_toArray, List.set_cons_zero, List.set_cons_succ]
  refine wpAnyI_take (S0 := fun _ => True) (i := 6) (v := ?_) rfl (by kernel_rfl) (by kernel_rfl) (by kernel_rfl) (by kernel_rfl) (List.range 13) (by kernel_rfl) (fun _ _ _ h => h) (fun _ _ h => absurd h (by decide)) (fun _ _ _ _ => trivial) (some 131) rfl (Or.inl ⟨by rfl, ?_⟩) trivial ?_
  rotate_left
  · intro w' _; go_simp <;> with_reducible rfl
  try simp only [Act.put, List.setIfInBounds_toArray, List.set_cons_zero, List.set_cons_succ]
  refine wpAnyI_take (S0 := fun _ => True) (i := 7) (v := ?_) rfl (by kernel_rfl) (by kernel_rfl) (by kernel_rfl) (by kernel_rfl) (List.range 13) (by kernel_rfl) (fun _ _ _ h => h) (fun _ _ h => absurd h (by decide)) (fun _ _ _ _ => trivial) (some 132) rfl (Or.inl ⟨by rfl, ?_⟩) trivial ?_
  rotate_left
  · intro w' _; go_simp <;> with_reducible rfl
  try simp only [Act.put, List.setIfInBounds_toArray, List.set_cons_zero, List.set_cons_succ]
  refine wpAnyI_take (S0 := fun _ => True) (i := 8) (v := ?_) rfl (by kernel_rfl) (by kernel_rfl) (by kernel_rfl) (by kernel_rfl) (List.range 13) (by kernel_rfl) (fun _ _ _ h => h) (fun _ _ h => absurd h (by decide)) (fun _ _ _ _ => trivial) (some 133) rfl (Or.inl ⟨by rfl, ?_⟩) trivial ?_
  rotate_left
  · intro w' _; go_simp <;> with_reducible rfl
  try simp only [Act.put, List.setIfInBounds_toArray, List.set_cons_zero, List.set_cons_succ]
  refine wpAnyI_take (S0 := fun W' => W'.cell? ⟨K, 0, none⟩ = some (.string ⟨x.label.toArray⟩) ∧ W'.cell? ⟨K, 1, none⟩ = some (.string ⟨x.text.toArray⟩) ∧ W'.cell? ⟨P, 2, none⟩ = some tv) (i := 2) (v := ?_) rfl (by kernel_rfl) (by kernel_rfl) (by kernel_rfl) (by kernel_rfl) [2, 5, 9, 10] (by kernel_rfl) (fun _ _ _ h => h) (fun _ h _ => h) (fun j hj _ h => h (by simpa using hj)) (some 127) rfl (Or.inl ⟨by rfl, ?_⟩) ⟨c0, c1, p2⟩ ?_
  rotate_left
  · rintro w' ⟨s0, s1, s2⟩; go_simp <;> with_reducible rfl
  try simp only [Act.put, List.setIfInBounds_toArray, List.set_cons_zero, List.set_cons_succ]
  refine wpAnyI_take (S0 := fun _ => True) (i := 3) (v := ?_) rfl (by kernel_rfl) (by kernel_rfl) (by kernel_rfl) (by kernel_rfl) (List.range 13) (by kernel_rfl) (fun _ _ _ h => h) (fun _ _ h => absurd h (by decide)) (fun _ _ _ _ => trivial) (some 128) rfl (Or.inl ⟨by rfl, ?_⟩) trivial ?_
  rotate_left
  · intro w' _; go_simp <;> with_reducible rfl
  try simp only [Act.put, List.setIfInBounds_toArray, List.set_cons_zero, List.set_cons_succ]
  refine wpAnyI_take (S0 := fun W' => W'.cell? ⟨K, 0, none⟩ = some (.string ⟨x.label.toArray⟩) ∧ W'.cell? ⟨K, 1, none⟩ = some (.string ⟨x.text.toArray⟩) ∧ W'.cell? ⟨P, 2, none⟩ = some tv) (i := 5) (v := ?_) rfl (by kernel_rfl) (by kernel_rfl) (by kernel_rfl) (by kernel_rfl) [2, 5, 9, 10] (by kernel_rfl) (fun _ _ _ h => h) (fun _ h _ => h) (fun j hj _ h => h (by simpa using hj)) (some 130) rfl (Or.inl ⟨by rfl, ?_⟩) ⟨c0, c1, p2⟩ ?_
  rotate_left
  · rintro w' ⟨s0, s1, s2⟩; go_simp <;> with_reducible rfl
  try simp only [Act.put, List.setIfInBounds_toArray, List.set_cons_zero, List.set_cons_succ]
  refine wpAnyI_take (S0 := fun W' => W'.cell? ⟨K, 0, none⟩ = some (.string ⟨x.label.toArray⟩) ∧ W'.cell? ⟨K, 1, none⟩ = some (.string ⟨x.text.toArray⟩) ∧ W'.cell? ⟨P, 2, none⟩ = some tv) (i := 9) (v := ?_) rfl (by kernel_rfl) (by kernel_rfl) (by kernel_rfl) (by kernel_rfl) [2, 5, 9, 10] (by kernel_rfl) (fun _ _ _ h => h) (fun _ h _ => h) (fun j hj _ h => h (by simpa using hj)) (some 134) rfl (Or.inl ⟨by rfl, ?_⟩) ⟨c0, c1, p2⟩ ?_
  rotate_left
  · rintro w' ⟨s0, s1, s2⟩; go_simp <;> with_reducible rfl
  try simp only [Act.put, List.setIfInBounds_toArray, List.set_cons_zero, List.set_cons_succ]
  refine wpAnyI_one (i := 10) (by kernel_rfl) rfl (fun K' hK => ?_)
  have HKK := Lib.hid hK
  clear hK
  go_simp
  refine (HP.out _ (HL.out.step ((HZ.out.1.drew).mono hs0))).mono ?_
  rintro e w3 ⟨v3, rfl, hI3, b3⟩
  have hkn3 := (b3.block _ hKl).trans HZ.out.2.2
  have d0 := heap_cell c0 (hkn3.trans HZ.out.2.2.symm)
  have d1 := heap_cell c1 (hkn3.trans HZ.out.2.2.symm)
  have hB3 := below_step HZ.out.1.drew b3
  have hH3 := HZ.out.2.1.below b3
  have p2a : w3.cell? ⟨P, 2, none⟩ = some tv := by obtain ⟨_, _, _, hq, _⟩ := id hH3; exact (ParAt.cells hq).2.2.1
  have HI3 := Lib.hid (And.intro hI3 (And.intro hB3 hH3))
  clear hI3 hB3 hH3
  go_wp2_with fail
  refine HKK.out _ _ ⟨fun _ => ⟨d0, d1, p2a⟩, ?_⟩
  clear HKK K'
  try simp only [Act.put, List.setIfInBounds_toArray, List.set_cons_zero, List.set_cons_succ]
  refine wpAnyI_one (i := 11) (by kernel_rfl) rfl (fun K' hK => ?_)
  have HKK := Lib.hid hK
  clear hK
  go_simp
  refine (HWI.out _ _ HI3.out.1).mono ?_
  rintro e w4 ⟨v4, rfl, hI4, b4⟩
  have hB4 := below_step HI3.out.2.1 b4
  have hH4 := HI3.out.2.2.below b4
  have HI4 := Lib.hid (And.intro hI4 (And.intro hB4 hH4))
  clear hI4 hB4 hH4
  go_wp2_with fail
  refine HKK.out _ _ ⟨fun h => absurd h (by decide), ?_⟩
  clear HKK K'
  try simp only [Act.put, List.setIfInBounds_toArray, List.set_cons_zero, List.set_cons_succ]
  refine wpAnyI_one (i := 12) (by kernel_rfl) rfl (fun K' hK => ?_)
  have HKK := Lib.hid hK
  clear hK
  go_simp
  refine (put_any B0 P s av tv v4 st _ w4 hP0 HI4.out.2.2 HI4.out.1 hn).mono ?_
  rintro e w5 ⟨rfl, s5, b5⟩
  have hB5 := (HI4.out.2.1.mono hs0).trans b5
  go_wp2_with fail
  refine HKK.out _ _ ⟨fun h => absurd h (by decide), ?_⟩
  clear HKK K'
  try simp only [Act.put, List.setIfInBounds_toArray, List.set_cons_zero, List.set_cons_succ]
  refine wpAnyI_done (by kernel_rfl) ?_ _
  go_wp2_with fail
  go_ret
  exact ⟨rfl, s5, hB5⟩

end Go.Proofs.YtahljcbmckldhaaGreatDoor

/-
  inline.Parse of a text with atoms.
-/
namespace Go.Proofs.YtahljcbmckldhaaGreatDoor
open Go.RowKit
set_option maxRecDepth 100000
set_option linter.unusedVariables false
set_option linter.unusedSimpArgs false

theorem parse0_wtT (t : Option (List DefL)) (x : List UInt8) (T : Nat) (h : x.length ≤ T) : wtL (parse0 t x) ≤ T * tokB T 0 0 := by
  have h1 := parse0_wt t x
  have h2 : tokB x.length 0 0 ≤ tokB T 0 0 := by unfold tokB; omega
  exact Nat.le_trans h1 (Nat.mul_le_mul h h2)

theorem parseA_any {S T : Nat} (s : ByteArray) (av tv : Value) (t : Option (List DefL)) (ts : List AtomT) (w : World) (hE : Env w) (hT : TabAt w tv t) (hA : AtomsAt w av ts) (hl : ∀ ds, t = some ds → ds.length ≤ 1000000000)
    (hS : s.size ≤ S) (hts : ∀ a ∈ ts, a.text.length ≤ T ∧ a.label.length ≤ T) (hS9 : S ≤ 100000) (hT9 : T ≤ 100000) (hbig : 2 * (S * tokB S T (T * tokB T 0 0)) + S ≤ 100000000000) (hbig2 : T * tokB T 0 0 ≤ 1000000000000) :
    Calls Tryz.prog 13 #[.string s, av, tv] w fun e w' => ∃ v', e = .returned v' ∧ InlsAt w' v' (parseL t s.data.toList ts) ∧ Below w.heap.size w w' := by
  refine parse_any (A := T * tokB T 0 0) s av tv t ts (parse0 t) w hE hT hA hl hS hts (fun a ha => ⟨parse0_wtT t a.text T (hts a ha).1, (parse0_nest t a.text).2⟩) hS9 (by omega) hbig ?_
  intro B0 P st i next n a w' ha hL hP0 h hn
  have hm : a ∈ ts := List.mem_of_getElem? ha
  have hw := parse0_wtT t a.text T (hts a hm).1
  have hln := wtL_len (parse0 t a.text)
  have hnd := nest_depth (parse0_nest t a.text).2
  unfold TokenDoes
  have e : tokenL t s.data.toList ts (parse0 t) st (.atom n) i next = (st.put (withinL ⟨12, 0, a.label, [], []⟩ (parse0 t a.text)), next) := by
    unfold tokenL
    simp only
    rw [ha]
  rw [e]
  refine tk_atom B0 P s av tv t ts n a (parse0 t a.text) st i next w' hL hP0 h hn ha (by omega) (fun y hy => by have := hnd y hy; omega) ?_
  intro w2 hL2
  obtain ⟨h1, h2, _⟩ := hL2.here
  have := parse0_any ⟨a.text.toArray⟩ tv t w2 h1 h2 hl (by rw [Lib.size_eq]; have := (hts a hm).1; show a.text.length ≤ _; omega)
  exact this

end Go.Proofs.YtahljcbmckldhaaGreatDoor
